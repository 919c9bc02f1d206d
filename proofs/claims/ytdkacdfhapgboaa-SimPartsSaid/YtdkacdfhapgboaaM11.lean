/- Part 11 of the texts that the proof stands on: Args, LawP, LawS, LawC, LawO, LawQ, LawR, LawK, HandB, FeedG, FeedP, FeedR, FeedS, OpenE, OpenSim, FeedH, FeedM. -/
import Derived.Test.YtdkacdfhapgboaaM10
import Derived.OpenShut
import Derived.Deep.Slices
import Derived.Deep.Fields
import Derived.ChangeSame
import Derived.Deep.Matrix

/- Arguments as they come in: slices of numbers, numbers. -/
set_option linter.unusedVariables false
namespace Go.Proofs.Ytdkacdfhapgboaa
open Go.RowKit

theorem wf_u32 {n : Int} (h : (Lit.int .u32 n).wf = true) : 0 ≤ n ∧ n < 4294967296 := by
  have := bounds_u32 h
  omega
theorem wf_u8 {n : Int} (h : (Lit.int .u8 n).wf = true) : 0 ≤ n ∧ n < 256 := by
  have := bounds_u8 h
  omega
theorem wf_u16 {n : Int} (h : (Lit.int .u16 n).wf = true) : 0 ≤ n ∧ n < 65536 := by
  have := bounds_u16 h
  omega
/-- A slice of numbers that came in. -/
theorem row_rd {k : IntKind} {w : World} {a : Option Addr} {len cap : Nat} {zs : List Int}
    (h : (a = none ∧ len = 0 ∧ cap = 0 ∧ zs = []) ∨ ∃ x, a = some x ∧ len ≤ cap ∧ cap ≤ maxLen ∧ zs.length = cap ∧ (∀ i, i < zs.length → w.cell? (x.add i) = some (.int k (zs.getD i 0))) ∧ ∀ n ∈ zs, (Lit.int k n).wf = true) :
    ∃ xs : List Int, xs.length = len ∧ RdI w k a len xs ∧ (a = none → cap = 0) ∧ len ≤ cap ∧ len ≤ 9223372036854775807 ∧ ∀ n ∈ xs, (Lit.int k n).wf = true := by
  rcases h with ⟨rfl, rfl, rfl, rfl⟩ | ⟨x, rfl, h1, h2, h3, h4, h5⟩
  · exact ⟨[], rfl, ⟨by simp, by omega, fun j hj => absurd hj (by simp)⟩, fun _ => rfl, Nat.le_refl _, by omega, fun n hn => absurd hn (by simp)⟩
  · have hl : len ≤ 9223372036854775807 := by unfold maxLen at h2; omega
    refine ⟨zs.take len, by simp; omega, ⟨by simp; omega, hl, fun j hj => ⟨x, rfl, ?_⟩⟩, fun h => (by cases h), h1, hl, fun n hn => h5 n (List.mem_of_mem_take hn)⟩
    have hj' : j < len := by simp at hj; omega
    rw [h4 j (by omega)]
    simp [nums, List.getD_eq_getElem?_getD, List.getElem?_eq_getElem (show j < zs.length by omega)]
end Go.Proofs.Ytdkacdfhapgboaa

/- The statements on caches in plain words: hits by distance, more ways, first accesses, exchanged accesses. No program in sight. -/
set_option linter.unusedVariables false
set_option linter.unusedSimpArgs false
namespace Go.Proofs.Ytdkacdfhapgboaa

theorem setNo_ltn (n : Nat) (hn : 1 ≤ n) (x : Int) : setNo n x < n := by
  unfold setNo
  have h1 := Int.emod_nonneg x (show (n : Int) ≠ 0 by omega)
  have h2 := Int.emod_lt_of_pos x (show (0 : Int) < n by omega)
  omega
theorem gl_new (n i : Nat) (hi : i < n) : gl (List.replicate n []) i = [] := by
  simp [gl, List.getD_eq_getElem?_getD, List.getElem?_replicate, hi]
/-- The lines of a set, in order of their use. -/
def ofSet (n : Nat) (s : Nat) (xs : List Int) : List Int := xs.filter fun x => setNo n x == s
theorem mem_ofSet (n s : Nat) (xs : List Int) (y : Int) : y ∈ ofSet n s xs ↔ y ∈ xs ∧ setNo n y = s := by simp [ofSet]
/-- Whether access i hits: its line is among the lines last used of its set. -/
theorem hit_lru (line ways : Int) (n : Nat) (h1 : 1 ≤ line) (hd : 4294967296 % line = 0) (hn : 1 ≤ n) (l : List Int) (hu : ∀ x ∈ l, 0 ≤ x ∧ x < 4294967296) (i : Nat) (hi : i < l.length) :
    gb (replayL line n ways (List.replicate n []) l).2 i = decide (gi l i / line ∈ lruK ways.toNat [] (ofSet n (setNo n (gi l i / line)) (lns line (l.take i)))) := by
  rw [replayL_hit line n ways h1 hd l _ hu i hi]
  unfold hitL
  rw [gl_run n ways _ _ _ (by rw [List.length_replicate]; exact setNo_ltn n hn _), gl_new n _ (setNo_ltn n hn _)]
  rfl
theorem mem_take_mono {x : Int} {l : List Int} {a b : Nat} (hab : a ≤ b) (h : x ∈ l.take a) : x ∈ l.take b := by
  have e : l.take a = (l.take b).take a := by rw [List.take_take, Nat.min_eq_left hab]
  rw [e] at h
  exact List.mem_of_mem_take h
/-- With more ways every access that hit hits. -/
theorem ways_hit (line w1 w2 : Int) (n : Nat) (h1 : 1 ≤ line) (hd : 4294967296 % line = 0) (hn : 1 ≤ n) (hw : w1 ≤ w2) (l : List Int) (hu : ∀ x ∈ l, 0 ≤ x ∧ x < 4294967296) (i : Nat) (hi : i < l.length)
    (h : gb (replayL line n w1 (List.replicate n []) l).2 i = true) : gb (replayL line n w2 (List.replicate n []) l).2 i = true := by
  rw [hit_lru line _ n h1 hd hn l hu i hi, decide_eq_true_eq, lruK_nil] at h ⊢
  exact mem_take_mono (by omega) h
/-- .. and the sets of the lesser cache are beginnings of those of the greater one. -/
theorem ways_sets (w1 w2 : Int) (n : Nat) (hw : w1 ≤ w2) (xs : List Int) (s : Nat) (hs : s < n) :
    let a := gl (runL n w1 (List.replicate n []) xs).1 s; let b := gl (runL n w2 (List.replicate n []) xs).1 s
    a.length ≤ b.length ∧ a = b.take a.length ∧ (a.length < w1.toNat → ¬ a.length < b.length) := by
  simp only
  rw [gl_run n w1 s xs _ (by simpa using hs), gl_run n w2 s xs _ (by simpa using hs), gl_new n s hs, lruK_nil, lruK_nil]
  obtain ⟨L, hL⟩ : ∃ L, lru [] (xs.filter fun x => setNo n x == s) = L := ⟨_, rfl⟩
  rw [hL]
  have h12 : w1.toNat ≤ w2.toNat := by omega
  simp only [List.length_take]
  refine ⟨by omega, ?_, fun h h' => by omega⟩
  rw [List.take_take]
  by_cases h : w1.toNat ≤ L.length
  · congr 1; omega
  · rw [List.take_of_length_le (by omega), List.take_of_length_le (by omega)]
/-- A line that was not used before is missed. -/
theorem first_miss (line ways : Int) (n : Nat) (h1 : 1 ≤ line) (hd : 4294967296 % line = 0) (hn : 1 ≤ n) (l : List Int) (hu : ∀ x ∈ l, 0 ≤ x ∧ x < 4294967296) (i : Nat) (hi : i < l.length) (h : gi l i / line ∉ lns line (l.take i)) :
    gb (replayL line n ways (List.replicate n []) l).2 i = false := by
  rw [hit_lru line _ n h1 hd hn l hu i hi, decide_eq_false_iff_not]
  exact miss_new _ _ _ fun hm => h ((mem_ofSet _ _ _ _).1 hm).1
/-- If all lines of its set fit, a line that was used before hits. -/
theorem later_hit (line ways : Int) (n : Nat) (h1 : 1 ≤ line) (hd : 4294967296 % line = 0) (hn : 1 ≤ n) (l : List Int) (hu : ∀ x ∈ l, 0 ≤ x ∧ x < 4294967296) (i : Nat) (hi : i < l.length) (h : gi l i / line ∈ lns line (l.take i))
    (all : List Int) (hall : ∀ y, y ∈ lns line l → setNo n y = setNo n (gi l i / line) → y ∈ all) (hw : all.length ≤ ways.toNat) : gb (replayL line n ways (List.replicate n []) l).2 i = true := by
  rw [hit_lru line _ n h1 hd hn l hu i hi, decide_eq_true_eq, lruK_nil]
  have hm := mem_lru (ofSet n (setNo n (gi l i / line)) (lns line (l.take i))) List.nodup_nil
  have hnd := lru_nodup (ofSet n (setNo n (gi l i / line)) (lns line (l.take i))) List.nodup_nil
  have hle : (lru [] (ofSet n (setNo n (gi l i / line)) (lns line (l.take i)))).length ≤ all.length := nodup_len_le hnd fun y hy => by
    rcases (hm y).1 hy with h2 | h2
    · obtain ⟨h3, h4⟩ := (mem_ofSet _ _ _ _).1 h2
      refine hall y ?_ h4
      unfold lns at h3 ⊢
      obtain ⟨a, ha, rfl⟩ := List.mem_map.1 h3
      exact List.mem_map.2 ⟨a, List.mem_of_mem_take ha, rfl⟩
    · simp at h2
  rw [List.take_of_length_le (by omega)]
  exact (hm _).2 (.inl ((mem_ofSet _ _ _ _).2 ⟨h, rfl⟩))
/-- By distance: the last use of the line is access k, and 'since' are the different lines of its set used behind it. -/
theorem distance_hit (line ways : Int) (n : Nat) (h1 : 1 ≤ line) (hd : 4294967296 % line = 0) (hn : 1 ≤ n) (l : List Int) (hu : ∀ x ∈ l, 0 ≤ x ∧ x < 4294967296) (i : Nat) (hi : i < l.length) (k : Nat) (hk : k < i) (hkx : gi l k / line = gi l i / line)
    (hno : ∀ j, k < j → j < i → gi l j / line ≠ gi l i / line) (since : List Int) (hs : since.Nodup) (hm : ∀ y, y ∈ since ↔ ∃ j, k < j ∧ j < i ∧ gi l j / line = y ∧ setNo n y = setNo n (gi l i / line)) :
    gb (replayL line n ways (List.replicate n []) l).2 i = decide (since.length < ways.toNat) := by
  rw [hit_lru line _ n h1 hd hn l hu i hi]
  obtain ⟨x, hx⟩ : ∃ x, gi l i / line = x := ⟨_, rfl⟩
  rw [hx] at hkx hno hm ⊢
  have e : lns line (l.take i) = lns line (l.take k) ++ x :: lns line ((l.take i).drop (k + 1)) := by
    have e1 : l.take i = l.take k ++ gi l k :: (l.take i).drop (k + 1) := by
      have e2 : (l.take i).take k = l.take k := by rw [List.take_take, Nat.min_eq_left (by omega)]
      have e3 : (l.take i).drop k = gi l k :: (l.take i).drop (k + 1) := by
        rw [List.drop_eq_getElem_cons (by rw [List.length_take]; omega), List.getElem_take, gi_get l k (by omega)]
      rw [← e3, ← e2, List.take_append_drop]
    conv => lhs; rw [e1]
    simp [lns, hkx]
  rw [e]
  unfold ofSet
  rw [List.filter_append, List.filter_cons_of_pos (by simp)]
  have hb : x ∉ (lns line ((l.take i).drop (k + 1))).filter fun y => setNo n y == setNo n x := fun h => by
    obtain ⟨h2, _⟩ := List.mem_filter.1 h
    obtain ⟨a, ha, e2⟩ := List.mem_map.1 h2
    obtain ⟨j, hj, e3⟩ := List.getElem_of_mem ha
    rw [List.length_drop, List.length_take] at hj
    rw [List.getElem_drop, List.getElem_take] at e3
    refine hno (k + 1 + j) (by omega) (by omega) ?_
    rw [gi_get l _ (by omega), e3, e2]
  have := hit_iff ways.toNat ((lns line (l.take k)).filter fun y => setNo n y == setNo n x) ((lns line ((l.take i).drop (k + 1))).filter fun y => setNo n y == setNo n x) since x hb hs (fun y => by
    rw [hm, List.mem_filter]
    constructor
    · rintro ⟨j, hj1, hj2, hj3, hj4⟩
      refine ⟨List.mem_map.2 ⟨gi l j, ?_, hj3⟩, by simpa using hj4⟩
      rw [gi_get l j (by omega)]
      have e4 : ((l.take i).drop (k + 1))[j - (k + 1)]'(by rw [List.length_drop, List.length_take]; omega) = l[j]'(by omega) := by
        rw [List.getElem_drop, List.getElem_take]
        congr 1
        omega
      rw [← e4]
      exact List.getElem_mem _
    · rintro ⟨h2, h3⟩
      obtain ⟨a, ha, e2⟩ := List.mem_map.1 h2
      obtain ⟨j, hj, e3⟩ := List.getElem_of_mem ha
      rw [List.length_drop, List.length_take] at hj
      rw [List.getElem_drop, List.getElem_take] at e3
      exact ⟨k + 1 + j, by omega, by omega, by rw [gi_get l _ (by omega), e3, e2], by simpa using h3⟩)
  exact decide_eq_decide.2 this
end Go.Proofs.Ytdkacdfhapgboaa

/- Two neighbouring accesses of lines of different sets, exchanged. No program in sight. -/
set_option linter.unusedVariables false
set_option linter.unusedSimpArgs false
namespace Go.Proofs.Ytdkacdfhapgboaa

theorem touch_comm (sets ways : Int) (L : List (List Int)) (x y : Int) (h : setNo sets x ≠ setNo sets y) : touchL sets ways (touchL sets ways L x) y = touchL sets ways (touchL sets ways L y) x := by
  have e1 := gl_touch_other sets ways L x (setNo sets y) h
  have e2 := gl_touch_other sets ways L y (setNo sets x) (Ne.symm h)
  show (touchL sets ways L x).set (setNo sets y) ((frontL (gl (touchL sets ways L x) (setNo sets y)) y).take ways.toNat) = (touchL sets ways L y).set (setNo sets x) ((frontL (gl (touchL sets ways L y) (setNo sets x)) x).take ways.toNat)
  rw [e1, e2]
  unfold touchL
  rw [List.set_comm _ _ h]
theorem hit_touch (sets ways : Int) (L : List (List Int)) (x y : Int) (h : setNo sets x ≠ setNo sets y) : hitL sets (touchL sets ways L x) y = hitL sets L y := by
  unfold hitL
  rw [gl_touch_other sets ways L x (setNo sets y) h]
theorem replayL_append (line sets ways : Int) : ∀ (l m : List Int) (L : List (List Int)), replayL line sets ways L (l ++ m) =
    ((replayL line sets ways (replayL line sets ways L l).1 m).1, (replayL line sets ways L l).2 ++ (replayL line sets ways (replayL line sets ways L l).1 m).2)
  | [], m, L => rfl
  | x :: l, m, L => by
    simp only [List.cons_append, replayL]
    rw [replayL_append line sets ways l m]
theorem run1 (sets ways : Int) (L : List (List Int)) (x : Int) : runL sets ways L [x] = (touchL sets ways L x, missL (hitL sets L x) x) := by
  simp [runL]
theorem miss_zero (h : Bool) (x : Int) : (((missL h x).length : Int) == 0) = h := by cases h <;> simp [missL]
theorem swap_replay (line sets ways : Int) (h1 : 1 ≤ line) (hd : 4294967296 % line = 0) (L : List (List Int)) (pre post : List Int) (a b : Int) (ha : 0 ≤ a ∧ a < 4294967296) (hb : 0 ≤ b ∧ b < 4294967296) (h : setNo sets (a / line) ≠ setNo sets (b / line)) :
    ∃ P x y Q, (replayL line sets ways L (pre ++ a :: b :: post)).2 = P ++ x :: y :: Q ∧ (replayL line sets ways L (pre ++ b :: a :: post)).2 = P ++ y :: x :: Q ∧ P.length = pre.length ∧
      (replayL line sets ways L (pre ++ a :: b :: post)).1 = (replayL line sets ways L (pre ++ b :: a :: post)).1 := by
  obtain ⟨K, hK⟩ : ∃ K, replayL line sets ways L pre = K := ⟨_, rfl⟩
  have hl : K.2.length = pre.length := by rw [← hK]; exact replayL_len _ _ _ _ _
  rw [replayL_append, replayL_append, hK]
  simp only [replayL, linI_one line a h1 ha hd, linI_one line b h1 hb hd, run1, miss_zero]
  refine ⟨K.2, hitL sets K.1 (a / line), hitL sets K.1 (b / line), (replayL line sets ways (touchL sets ways (touchL sets ways K.1 (a / line)) (b / line)) post).2, ?_, ?_, hl, ?_⟩
  · rw [hit_touch _ _ _ _ _ h]
  · rw [hit_touch _ _ _ _ _ (Ne.symm h), touch_comm _ _ _ _ _ h]
  · rw [touch_comm _ _ _ _ _ h]
end Go.Proofs.Ytdkacdfhapgboaa

/- The least recently used against any replacement, by phases. No program in sight. -/
set_option linter.unusedVariables false
set_option linter.unusedSimpArgs false
namespace Go.Proofs.Ytdkacdfhapgboaa

/-- Misses of a set of k ways that drops what was used least recently. -/
def lruMiss (k : Nat) : List Int → List Int → Nat
  | _, [] => 0
  | l, x :: xs => (if x ∈ l.take k then 0 else 1) + lruMiss k (frontL l x) xs
/-- Some replacement in a set of h ways serves lines: it drops one line at most at each miss. m: its misses. -/
inductive Serve (h : Nat) : List Int → List Int → Nat → Prop
  | nil (C : List Int) : Serve h C [] 0
  | hit {C xs : List Int} {x : Int} {m : Nat} (hx : x ∈ C) (s : Serve h C xs m) : Serve h C (x :: xs) m
  | miss {C E xs : List Int} {x e : Int} {m : Nat} (hx : x ∉ C) (hE : x ∈ E) (hl : E.length ≤ h) (he : ∀ y ∈ C, y = e ∨ y ∈ E) (s : Serve h E xs m) : Serve h C (x :: xs) (m + 1)

theorem front_take_in {l : List Int} {x : Int} {d : Nat} (hn : l.Nodup) (hx : x ∈ l.take d) : ∀ y, y ∈ (frontL l x).take d → y ∈ l.take d := by
  intro y hy
  cases d with
  | zero => simp at hx
  | succ d =>
    unfold frontL at hy
    rw [List.take_succ_cons] at hy
    rcases List.mem_cons.1 hy with rfl | hy
    · exact hx
    · rw [← take_erase] at hy
      exact List.mem_of_mem_erase (List.mem_of_mem_take hy)
theorem front_take_out {l : List Int} {x : Int} {d : Nat} (hx : x ∉ l.take d) : ∀ y, y ∈ (frontL l x).take (d + 1) → y = x ∨ y ∈ l.take d := by
  intro y hy
  unfold frontL at hy
  rw [List.take_succ_cons] at hy
  rcases List.mem_cons.1 hy with rfl | hy
  · exact .inl rfl
  · refine .inr ?_
    have : ∀ (l : List Int) (d : Nat), y ∈ (l.erase x).take d → y ∈ l.take d ∨ x ∈ l.take d := by
      intro l
      induction l with
      | nil => intro d h; simp at h
      | cons a l ih =>
        intro d h
        cases d with
        | zero => simp at h
        | succ d =>
          by_cases e : a = x
          · right; simp [e]
          · rw [List.erase_cons_tail (by simpa using e), List.take_succ_cons] at h
            rcases List.mem_cons.1 h with rfl | h
            · left; simp
            · rcases ih d h with h1 | h1
              · left; simp [h1]
              · right; simp [h1]
    rcases this l d hy with h | h
    · exact h
    · exact absurd h hx
theorem front_len {l : List Int} {x : Int} : l.length ≤ (frontL l x).length ∧ (x ∉ l → (frontL l x).length = l.length + 1) := by
  unfold frontL
  constructor
  · by_cases h : x ∈ l
    · rw [List.length_cons, List.length_erase_of_mem h]; omega
    · rw [List.erase_of_not_mem h]; simp
  · intro h; rw [List.erase_of_not_mem h]; simp
theorem cover_le {l C G : List Int} {d : Nat} (hn : l.Nodup) (hd : d ≤ l.length) (h : ∀ y ∈ l.take d, y ∈ C ∨ y ∈ G) : d ≤ C.length + G.length := by
  have h1 := nodup_len_le (d := l.take d) (e := C ++ G) (hn.sublist (List.take_sublist _ _)) fun y hy => List.mem_append.2 (h y hy)
  rw [List.length_take, List.length_append] at h1
  omega
theorem front_room {l : List Int} {x : Int} {d : Nat} (hd : d ≤ l.length) (hx : x ∉ l.take d) : d + 1 ≤ (frontL l x).length := by
  by_cases h : x ∈ l
  · have h1 : d < l.length := by
      by_cases e : d < l.length
      · exact e
      · rw [List.take_of_length_le (by omega)] at hx; exact absurd h hx
    have := front_len (l := l) (x := x)
    omega
  · have := (front_len (l := l) (x := x)).2 h
    omega
theorem mul_step (a b q k m g : Nat) (h1 : a * q ≤ k * m) (h2 : b ≤ k) (h3 : q ≤ g) : (a + b) * q ≤ k * (m + g) := by
  rw [Nat.add_mul, Nat.mul_add]
  have := Nat.mul_le_mul h2 h3
  omega
theorem competes (k h : Nat) (hk : h ≤ k) (hh : 1 ≤ h) {C xs : List Int} {m : Nat} (s : Serve h C xs m) : ∀ (l G : List Int) (d f g M0 m0 : Nat), l.Nodup → 1 ≤ d → d ≤ l.length → d ≤ k → f + 1 ≤ d → G.length ≤ g → C.length ≤ h → (∀ y ∈ l.take d, y ∈ C ∨ y ∈ G) → M0 * (k - h + 1) ≤ k * m0 →
    (M0 + f + lruMiss k l xs) * (k - h + 1) ≤ k * (m0 + g + m + h) := by
  induction s with
  | nil C =>
    intro l G d f g M0 m0 hn hd1 hd hdk hf hG hC hcov hM
    have h1 := cover_le hn hd hcov
    have h2 := mul_step M0 f (k - h + 1) k m0 0 hM (by omega)
    simp only [lruMiss, Nat.add_zero]
    have h3 : f * (k - h + 1) ≤ (g + h) * k := Nat.mul_le_mul (by omega) (by omega)
    rw [Nat.mul_comm (g + h) k] at h3
    have h6 : m0 + g + h = m0 + (g + h) := by omega
    rw [h6, Nat.mul_add k m0 (g + h), Nat.add_mul]
    exact Nat.add_le_add hM h3
  | @hit C xs x m hx s ih =>
    intro l G d f g M0 m0 hn hd1 hd hdk hf hG hC hcov hM
    simp only [lruMiss]
    by_cases h1 : x ∈ l.take d
    · rw [if_pos (mem_take_mono hdk h1), Nat.zero_add]
      exact ih (frontL l x) G d f g M0 m0 (frontL_nodup hn x) hd1 (by have := (front_len (l := l) (x := x)).1; omega) hdk hf hG hC (fun y hy => hcov y (front_take_in hn h1 y hy)) hM
    · by_cases h2 : d < k
      · obtain ⟨b, hb⟩ : ∃ b, (if x ∈ l.take k then 0 else 1) = b := ⟨_, rfl⟩
        have hb1 : b ≤ 1 := by rw [← hb]; split <;> omega
        rw [hb]
        have := ih (frontL l x) G (d + 1) (f + b) g M0 m0 (frontL_nodup hn x) (by omega) (front_room hd h1) (by omega) (by omega) hG hC (fun y hy => by
          rcases front_take_out h1 y hy with rfl | hy
          · exact .inl hx
          · exact hcov y hy) hM
        have e : M0 + f + (b + lruMiss k (frontL l x) xs) = M0 + (f + b) + lruMiss k (frontL l x) xs := by omega
        rw [e]
        exact this
      · obtain rfl : d = k := by omega
        rw [if_neg h1]
        have hc : d + 1 ≤ C.length + G.length := cover_le (l := frontL l x) (frontL_nodup hn x) (front_room hd h1) fun y hy => by
          rcases front_take_out h1 y hy with rfl | hy
          · exact .inl hx
          · exact hcov y hy
        have := ih (frontL l x) [] 1 0 0 (M0 + (f + 1)) (m0 + g) (frontL_nodup hn x) (Nat.le_refl _) (by have := front_room hd h1; omega) (by omega) (by omega) (by simp) hC (fun y hy => by
          unfold frontL at hy
          simp at hy
          exact .inl (hy ▸ hx)) (mul_step _ _ _ _ _ _ hM (by omega) (by omega))
        have e : M0 + f + (1 + lruMiss d (frontL l x) xs) = M0 + (f + 1) + 0 + lruMiss d (frontL l x) xs := by omega
        rw [e]
        exact this
  | @miss C E xs x e m hx hE hl he s ih =>
    intro l G d f g M0 m0 hn hd1 hd hdk hf hG hC hcov hM
    simp only [lruMiss]
    have hcov' : ∀ y ∈ l.take d, y ∈ E ∨ y ∈ e :: G := fun y hy => by
      rcases hcov y hy with h1 | h1
      · rcases he y h1 with rfl | h2
        · exact .inr (by simp)
        · exact .inl h2
      · exact .inr (by simp [h1])
    have e0 : m0 + g + (m + 1) + h = m0 + (g + 1) + m + h := by omega
    rw [e0]
    by_cases h1 : x ∈ l.take d
    · rw [if_pos (mem_take_mono hdk h1), Nat.zero_add]
      exact ih (frontL l x) (e :: G) d f (g + 1) M0 m0 (frontL_nodup hn x) hd1 (by have := (front_len (l := l) (x := x)).1; omega) hdk hf (by simp; omega) hl (fun y hy => hcov' y (front_take_in hn h1 y hy)) hM
    · by_cases h2 : d < k
      · obtain ⟨b, hb⟩ : ∃ b, (if x ∈ l.take k then 0 else 1) = b := ⟨_, rfl⟩
        have hb1 : b ≤ 1 := by rw [← hb]; split <;> omega
        rw [hb]
        have := ih (frontL l x) (e :: G) (d + 1) (f + b) (g + 1) M0 m0 (frontL_nodup hn x) (by omega) (front_room hd h1) (by omega) (by omega) (by simp; omega) hl (fun y hy => by
          rcases front_take_out h1 y hy with rfl | hy
          · exact .inl hE
          · exact hcov' y hy) hM
        have e1 : M0 + f + (b + lruMiss k (frontL l x) xs) = M0 + (f + b) + lruMiss k (frontL l x) xs := by omega
        rw [e1]
        exact this
      · obtain rfl : d = k := by omega
        rw [if_neg h1]
        have hc : d + 1 ≤ E.length + (e :: G).length := cover_le (l := frontL l x) (frontL_nodup hn x) (front_room hd h1) fun y hy => by
          rcases front_take_out h1 y hy with rfl | hy
          · exact .inl hE
          · exact hcov' y hy
        simp only [List.length_cons] at hc
        have := ih (frontL l x) [] 1 0 0 (M0 + (f + 1)) (m0 + (g + 1)) (frontL_nodup hn x) (Nat.le_refl _) (by have := front_room hd h1; omega) (by omega) (by omega) (by simp) hl (fun y hy => by
          unfold frontL at hy
          simp at hy
          exact .inl (hy ▸ hE)) (mul_step _ _ _ _ _ _ hM (by omega) (by omega))
        have e1 : M0 + f + (1 + lruMiss d (frontL l x) xs) = M0 + (f + 1) + 0 + lruMiss d (frontL l x) xs := by omega
        rw [e1]
        exact this
/-- A set of k ways that drops what was used least recently, against any replacement in h ways, both empty at the start. -/
theorem competes_new (k h : Nat) (hk : h ≤ k) (hh : 1 ≤ h) {xs : List Int} {m : Nat} (s : Serve h [] xs m) : lruMiss k [] xs * (k - h + 1) ≤ k * (m + h) := by
  cases s with
  | nil => simp [lruMiss]
  | hit hx s => simp at hx
  | @miss _ E xs x e m hx hE hl he s =>
    have := competes k h hk hh s [x] [] 1 0 0 1 1 (by simp) (Nat.le_refl _) (by simp) (by omega) (by omega) (by simp) hl (fun y hy => by simp at hy; exact .inl (hy ▸ hE)) (by omega)
    simp only [lruMiss, List.take_nil, List.not_mem_nil, if_false]
    have e1 : frontL [] x = [x] := by simp [frontL]
    rw [e1]
    have e2 : 1 + 0 + m + h = m + 1 + h := by omega
    rw [e2] at this
    simpa using this
end Go.Proofs.Ytdkacdfhapgboaa

/- What is used latest is dropped: no replacement misses less. No program in sight. -/
set_option linter.unusedVariables false
set_option linter.unusedSimpArgs false
namespace Go.Proofs.Ytdkacdfhapgboaa

theorem mem_take_idx (y : Int) : ∀ (xs : List Int) (t : Nat), t ≤ xs.length → (y ∈ xs.take t ↔ xs.idxOf y < t)
  | [], t, h => by simp at h; subst h; simp
  | x :: xs, 0, h => by simp
  | x :: xs, t + 1, h => by
    rw [List.take_succ_cons, List.mem_cons, List.idxOf_cons]
    by_cases e : x = y
    · simp [e]
    · have e' : (x == y) = false := by simpa using e
      rw [e', mem_take_idx y xs t (by simpa using h)]
      simp [Ne.symm e]
/-- How many of A are in S. -/
def cnt (A S : List Int) : Nat := (A.filter fun y => decide (y ∈ S)).length
theorem cnt_nil (A : List Int) : cnt A [] = 0 := by
  unfold cnt
  rw [List.filter_eq_nil_iff.2 (by simp)]
  rfl
theorem mem_cnt (A S : List Int) (y : Int) : (y ∈ A.filter fun y => decide (y ∈ S)) ↔ y ∈ A ∧ y ∈ S := by simp
theorem cnt_le (A S : List Int) : cnt A S ≤ A.length := List.length_filter_le _ _
theorem cnt_le_of {A B S T X : List Int} (hA : A.Nodup) (h : ∀ y, y ∈ A → y ∈ S → (y ∈ B ∧ y ∈ T) ∨ y ∈ X) : cnt A S ≤ cnt B T + X.length := by
  have := nodup_len_le (d := A.filter fun y => decide (y ∈ S)) (e := (B.filter fun y => decide (y ∈ T)) ++ X) (hA.sublist List.filter_sublist) fun y hy => by
    obtain ⟨h1, h2⟩ := (mem_cnt A S y).1 hy
    rcases h y h1 h2 with h3 | h3
    · exact List.mem_append.2 (.inl ((mem_cnt B T y).2 h3))
    · exact List.mem_append.2 (.inr h3)
  rw [List.length_append] at this
  exact this
theorem cnt_cons_in {A S : List Int} {x : Int} (hx : x ∈ S) : cnt A (x :: S) = cnt A S := by
  unfold cnt
  congr 1
  apply List.filter_congr
  intro y _
  simp only [List.mem_cons, decide_eq_decide]
  exact ⟨fun h => h.elim (fun e => e ▸ hx) id, .inr⟩
theorem cnt_cons_no {A S : List Int} {x : Int} (hx : x ∉ A) : cnt A (x :: S) = cnt A S := by
  unfold cnt
  congr 1
  apply List.filter_congr
  intro y hy
  simp only [List.mem_cons, decide_eq_decide]
  exact ⟨fun h => h.elim (fun e => absurd (e ▸ hy) hx) id, .inr⟩
theorem cnt_cons_out {A S : List Int} {x : Int} (hn : A.Nodup) (hA : x ∈ A) (hS : x ∉ S) : cnt A (x :: S) = cnt A S + 1 := by
  apply Nat.le_antisymm
  · have := cnt_le_of (A := A) (B := A) (S := x :: S) (T := S) (X := [x]) hn fun y h1 h2 => by
      rcases List.mem_cons.1 h2 with rfl | h2
      · exact .inr (by simp)
      · exact .inl ⟨h1, h2⟩
    simpa using this
  · have := nodup_len_le (d := x :: A.filter fun y => decide (y ∈ S)) (e := A.filter fun y => decide (y ∈ x :: S)) (List.nodup_cons.2 ⟨fun h => hS ((mem_cnt A S x).1 h).2, hn.sublist List.filter_sublist⟩) fun y hy => by
      rw [mem_cnt]
      rcases List.mem_cons.1 hy with rfl | hy
      · exact ⟨hA, by simp⟩
      · obtain ⟨h1, h2⟩ := (mem_cnt A S y).1 hy
        exact ⟨h1, by simp [h2]⟩
    rw [List.length_cons] at this
    exact this
/-- A replacement that holds only what it held, and the line asked for. -/
inductive Run (k : Nat) : List Int → List Int → Nat → Prop
  | nil (B : List Int) : Run k B [] 0
  | hit {B xs : List Int} {x : Int} {m : Nat} (hx : x ∈ B) (s : Run k B xs m) : Run k B (x :: xs) m
  | miss {B E xs : List Int} {x : Int} {m : Nat} (hx : x ∉ B) (hE : x ∈ E) (hn : E.Nodup) (hl : E.length ≤ k) (he : ∀ y ∈ E, y = x ∨ y ∈ B) (s : Run k E xs m) : Run k B (x :: xs) (m + 1)
/-- What is used latest is dropped. -/
inductive Bel (k : Nat) : List Int → List Int → Nat → Prop
  | nil (A : List Int) : Bel k A [] 0
  | hit {A xs : List Int} {x : Int} {m : Nat} (hx : x ∈ A) (s : Bel k A xs m) : Bel k A (x :: xs) m
  | room {A E xs : List Int} {x : Int} {m : Nat} (hx : x ∉ A) (hl : E.length ≤ k) (hn : E.Nodup) (he : ∀ y, y ∈ E ↔ y = x ∨ y ∈ A) (s : Bel k E xs m) : Bel k A (x :: xs) (m + 1)
  | drop {A E xs : List Int} {x z : Int} {m : Nat} (hx : x ∉ A) (hz : z ∈ A) (hmax : ∀ y ∈ A, xs.idxOf y ≤ xs.idxOf z) (hl : E.length = k) (hn : E.Nodup) (he : ∀ y, y ∈ E ↔ y = x ∨ (y ∈ A ∧ y ≠ z)) (s : Bel k E xs m) : Bel k A (x :: xs) (m + 1)

theorem run_step {k : Nat} {A B E S : List Int} {x : Int} (hE : E.Nodup) (he : ∀ y ∈ E, y = x ∨ y ∈ B) : cnt E S ≤ cnt B S + (if x ∈ S then 1 else 0) := by
  by_cases h : x ∈ S
  · rw [if_pos h]
    have := cnt_le_of (A := E) (B := B) (S := S) (T := S) (X := [x]) hE fun y h1 h2 => (he y h1).elim (fun e => .inr (by simp [e])) fun h3 => .inl ⟨h3, h2⟩
    simpa using this
  · rw [if_neg h]
    have := cnt_le_of (A := E) (B := B) (S := S) (T := S) (X := []) hE fun y h1 h2 => (he y h1).elim (fun e => absurd (e ▸ h2) h) fun h3 => .inl ⟨h3, h2⟩
    simpa using this
theorem cnt_all_but {k : Nat} {E S : List Int} {x : Int} (hl : E.length ≤ k) (hn : E.Nodup) (hx : x ∈ E) (hS : x ∉ S) : cnt E S + 1 ≤ k := by
  have h1 := cnt_cons_out hn hx hS
  have h2 := cnt_le E (x :: S)
  omega
/-- The new contents of the one that drops what is used latest hold at least so many of S. -/
theorem bel_cnt {k : Nat} {A E S : List Int} {x : Int} (hA : A.Nodup) (hn : E.Nodup) (hx : x ∉ A) (h : ∀ y, y ∈ A → y ∈ S → y ∈ E) (hE : x ∈ E) : cnt A S + (if x ∈ S then 1 else 0) ≤ cnt E S := by
  by_cases hs : x ∈ S
  · rw [if_pos hs]
    have := nodup_len_le (d := x :: A.filter fun y => decide (y ∈ S)) (e := E.filter fun y => decide (y ∈ S)) (List.nodup_cons.2 ⟨fun h => hx ((mem_cnt A S x).1 h).1, hA.sublist List.filter_sublist⟩) fun y hy => by
      rw [mem_cnt]
      rcases List.mem_cons.1 hy with rfl | hy
      · exact ⟨hE, hs⟩
      · obtain ⟨h1, h2⟩ := (mem_cnt A S y).1 hy
        exact ⟨h y h1 h2, h2⟩
    rw [List.length_cons] at this
    exact this
  · rw [if_neg hs]
    have := cnt_le_of (A := A) (B := E) (S := S) (T := S) (X := []) hA fun y h1 h2 => .inl ⟨h y h1 h2, h2⟩
    simpa using this
theorem cnt_all {E S : List Int} {x : Int} (hn : E.Nodup) (h : ∀ y ∈ E, y ≠ x → y ∈ S) : E.length ≤ cnt E S + (if x ∈ S then 0 else 1) := by
  by_cases hs : x ∈ S
  · rw [if_pos hs]
    exact nodup_len_le hn fun y hy => by
      rw [mem_cnt]
      by_cases e : y = x
      · exact ⟨hy, e ▸ hs⟩
      · exact ⟨hy, h y hy e⟩
  · rw [if_neg hs]
    have := nodup_len_le (d := E) (e := x :: E.filter fun y => decide (y ∈ S)) hn fun y hy => by
      rw [List.mem_cons, mem_cnt]
      by_cases e : y = x
      · exact .inl e
      · exact .inr ⟨hy, h y hy e⟩
    rw [List.length_cons] at this
    exact this
/-- One step, when both have been asked for x: what holds of x :: S holds of S. -/
theorem both_step {A B S : List Int} {x : Int} {d : Nat} (hA : A.Nodup) (hB : B.Nodup) (h : cnt B (x :: S) ≤ cnt A (x :: S) + d) (ha : x ∈ A) (hb : x ∈ B) : cnt B S ≤ cnt A S + d := by
  by_cases hs : x ∈ S
  · rw [cnt_cons_in hs, cnt_cons_in hs] at h; exact h
  · rw [cnt_cons_out hB hb hs, cnt_cons_out hA ha hs] at h; omega
theorem belady {k : Nat} {A xs : List Int} {m1 : Nat} (b : Bel k A xs m1) : ∀ {B : List Int} {m2 : Nat}, Run k B xs m2 → ∀ d : Nat, A.Nodup → B.Nodup → B.length ≤ k → (∀ t, t ≤ xs.length → cnt B (xs.take t) ≤ cnt A (xs.take t) + d) → m1 ≤ m2 + d := by
  induction b with
  | nil A => intros; omega
  | @hit A xs x m hx s ih =>
    intro B m2 r d hA hB hl hc
    have hc' : ∀ t, t ≤ xs.length → cnt B (x :: xs.take t) ≤ cnt A (x :: xs.take t) + d := fun t ht => hc (t + 1) (by simpa using ht)
    cases r with
    | hit hxB r => exact ih r d hA hB hl fun t ht => both_step hA hB (hc' t ht) hx hxB
    | @miss _ E _ _ m' hxB hE hn hlE he r =>
      have := ih r (d + 1) hA hn hlE fun t ht => by
        have h1 := hc' t ht
        have h2 := run_step (k := k) (A := A) (S := xs.take t) hn he
        rw [cnt_cons_no hxB] at h1
        by_cases hs : x ∈ xs.take t
        · rw [cnt_cons_in hs] at h1; rw [if_pos hs] at h2; omega
        · rw [cnt_cons_out hA hx hs] at h1; rw [if_neg hs] at h2; omega
      omega
  | @room A E xs x m hx hlE hnE heE s ih =>
    intro B m2 r d hA hB hl hc
    have hc' : ∀ t, t ≤ xs.length → cnt B (x :: xs.take t) ≤ cnt A (x :: xs.take t) + d := fun t ht => hc (t + 1) (by simpa using ht)
    have hb := fun t => bel_cnt (k := k) (S := xs.take t) hA hnE hx (fun y h1 _ => (heE y).2 (.inr h1)) ((heE x).2 (.inl rfl))
    cases r with
    | hit hxB r =>
      have hd : 1 ≤ d := by
        have h0 := hc' 0 (Nat.zero_le _)
        rw [List.take_zero, cnt_cons_out hB hxB (by simp), cnt_cons_no hx] at h0
        rw [cnt_nil, cnt_nil] at h0
        omega
      have := ih r (d - 1) hnE hB hl fun t ht => by
        have h1 := hc' t ht
        have h2 := hb t
        rw [cnt_cons_no hx] at h1
        by_cases hs : x ∈ xs.take t
        · rw [cnt_cons_in hs] at h1; rw [if_pos hs] at h2; omega
        · rw [cnt_cons_out hB hxB hs] at h1; rw [if_neg hs] at h2; omega
      omega
    | @miss _ F _ _ m' hxB hF hn hlF he r =>
      have := ih r d hnE hn hlF fun t ht => by
        have h1 := hc' t ht
        have h2 := hb t
        have h3 := run_step (k := k) (A := A) (S := xs.take t) hn he
        rw [cnt_cons_no hx, cnt_cons_no hxB] at h1
        omega
      omega
  | @drop A E xs x z m hx hz hmax hlE hnE heE s ih =>
    intro B m2 r d hA hB hl hc
    have hc' : ∀ t, t ≤ xs.length → cnt B (x :: xs.take t) ≤ cnt A (x :: xs.take t) + d := fun t ht => hc (t + 1) (by simpa using ht)
    have hb : ∀ t, t ≤ xs.length → cnt A (xs.take t) + (if x ∈ xs.take t then 1 else 0) ≤ cnt E (xs.take t) ∨ k ≤ cnt E (xs.take t) + (if x ∈ xs.take t then 0 else 1) := fun t ht => by
      by_cases hzs : z ∈ xs.take t
      · right
        have := cnt_all (S := xs.take t) (x := x) hnE fun y hy hyx => by
          rcases (heE y).1 hy with e | ⟨hyA, _⟩
          · exact absurd e hyx
          · rw [mem_take_idx _ _ _ ht] at hzs ⊢
            have := hmax y hyA
            omega
        omega
      · left
        exact bel_cnt (k := k) hA hnE hx (fun y h1 h2 => (heE y).2 (.inr ⟨h1, fun e => hzs (e ▸ h2)⟩)) ((heE x).2 (.inl rfl))
    cases r with
    | hit hxB r =>
      have hd : 1 ≤ d := by
        have h0 := hc' 0 (Nat.zero_le _)
        rw [List.take_zero, cnt_cons_out hB hxB (by simp), cnt_cons_no hx] at h0
        rw [cnt_nil, cnt_nil] at h0
        omega
      have := ih r (d - 1) hnE hB hl fun t ht => by
        have h1 := hc' t ht
        rw [cnt_cons_no hx] at h1
        have h4 := cnt_le B (xs.take t)
        by_cases hs : x ∈ xs.take t
        · have h2 := hb t ht
          rw [cnt_cons_in hs] at h1; simp only [if_pos hs] at h2; omega
        · have h2 := hb t ht
          have h5 := cnt_all_but hl hB hxB hs
          rw [cnt_cons_out hB hxB hs] at h1; simp only [if_neg hs] at h2; omega
      omega
    | @miss _ F _ _ m' hxB hF hn hlF he r =>
      have := ih r d hnE hn hlF fun t ht => by
        have h1 := hc' t ht
        have h2 := hb t ht
        have h3 := run_step (k := k) (A := A) (S := xs.take t) hn he
        have h4 := cnt_le F (xs.take t)
        rw [cnt_cons_no hx, cnt_cons_no hxB] at h1
        by_cases hs : x ∈ xs.take t
        · simp only [if_pos hs] at h2 h3; omega
        · have h5 := cnt_all_but hlF hn hF hs
          simp only [if_neg hs] at h2 h3; omega
      omega
end Go.Proofs.Ytdkacdfhapgboaa

/- The statement's 'least' as a replacement, and the least recently used one as a run. No program in sight. -/
set_option linter.unusedVariables false
set_option linter.unusedSimpArgs false
namespace Go.Proofs.Ytdkacdfhapgboaa

theorem bel_serve {w : Nat} {A xs : List Int} {m : Nat} (b : Bel w A xs m) : Serve w A xs m := by
  induction b with
  | nil A => exact .nil A
  | hit hx s ih => exact .hit hx ih
  | @room A E xs x m hx hl hn he s ih => exact .miss (e := x) hx ((he x).2 (.inl rfl)) hl (fun y hy => .inr ((he y).2 (.inr hy))) ih
  | @drop A E xs x z m hx hz hmax hl hn he s ih =>
    refine .miss (e := z) hx ((he x).2 (.inl rfl)) (Nat.le_of_eq hl) (fun y hy => ?_) ih
    by_cases e : y = z
    · exact .inl e
    · exact .inr ((he y).2 (.inr ⟨hy, e⟩))
theorem sub_all {d e : List Int} (hd : d.Nodup) (h : ∀ y ∈ d, y ∈ e) (hl : e.length ≤ d.length) : ∀ y ∈ e, y ∈ d := by
  intro y hy
  by_cases hyd : y ∈ d
  · exact hyd
  · have := nodup_len_le (d := y :: d) (e := e) (List.nodup_cons.2 ⟨hyd, hd⟩) fun z hz => by
      rcases List.mem_cons.1 hz with rfl | hz
      · exact hy
      · exact h z hz
    rw [List.length_cons] at this
    omega
theorem front_take_iff {l : List Int} {x : Int} {k : Nat} (hn : l.Nodup) (hx : x ∈ l.take k) : ∀ y, y ∈ (frontL l x).take k ↔ y ∈ l.take k := by
  intro y
  refine ⟨front_take_in hn hx y, fun h => ?_⟩
  refine sub_all ((frontL_nodup hn x).sublist (List.take_sublist _ _)) (front_take_in hn hx) ?_ y h
  have := (front_len (l := l) (x := x)).1
  rw [List.length_take, List.length_take]
  omega
theorem lru_run (k : Nat) (hk : 1 ≤ k) : ∀ (xs l B : List Int), l.Nodup → B.Nodup → (∀ y, y ∈ B ↔ y ∈ l.take k) → Run k B xs (lruMiss k l xs)
  | [], l, B, _, _, _ => .nil B
  | x :: xs, l, B, hn, hB, h => by
    simp only [lruMiss]
    by_cases hx : x ∈ l.take k
    · rw [if_pos hx, Nat.zero_add]
      exact .hit ((h x).2 hx) (lru_run k hk xs (frontL l x) B (frontL_nodup hn x) hB fun y => (h y).trans (front_take_iff hn hx y).symm)
    · rw [if_neg hx, Nat.add_comm]
      obtain ⟨k, rfl⟩ : ∃ j, k = j + 1 := ⟨k - 1, by omega⟩
      refine .miss (E := (frontL l x).take (k + 1)) (fun hb => hx ((h x).1 hb)) ?_ ((frontL_nodup hn x).sublist (List.take_sublist _ _)) (by rw [List.length_take]; omega) (fun y hy => ?_) (lru_run (k + 1) hk xs (frontL l x) _ (frontL_nodup hn x) ((frontL_nodup hn x).sublist (List.take_sublist _ _)) fun y => Iff.rfl)
      · unfold frontL; rw [List.take_succ_cons]; simp
      · rcases front_take_out (d := k) (fun hh => hx (mem_take_mono (by omega) hh)) y hy with rfl | hy
        · exact .inl rfl
        · exact .inr ((h y).2 (mem_take_mono (by omega) hy))

/-! ### 'least', as the statement computes it -/
/-- When a line is used next; L: never. -/
def nextU (L : Nat) (xs : List Int) (y : Int) : Int := if y ∈ xs then (xs.idxOf y : Int) + 1 else L
/-- The first place of the greatest value. -/
def scanM (f : Int → Int) : List Int → Nat → Int × Nat → Int × Nat
  | [], _, r => r
  | y :: ys, k, r => scanM f ys (k + 1) (if r.1 < f y then (f y, k) else r)
def farI (L : Nat) (xs here : List Int) : Nat := (scanM (nextU L xs) here 0 (-1, 0)).2
def leastL (L w : Nat) : List Int → List Int → Nat
  | here, [] => 0
  | here, x :: xs => if x ∈ here then leastL L w here xs else if here.length < w then leastL L w (here ++ [x]) xs + 1 else leastL L w (here.set (farI L xs here) x) xs + 1
theorem scanM_spec (f : Int → Int) (all : List Int) : ∀ (ys : List Int) (k : Nat) (r : Int × Nat), all.drop k = ys → (∀ j, j < k → f (gi all j) ≤ r.1) → (r.2 < all.length ∧ f (gi all r.2) = r.1 ∨ k = 0 ∧ r.1 = -1) → (∀ y, 0 ≤ f y) → 1 ≤ all.length →
    (scanM f ys k r).2 < all.length ∧ ∀ j, j < all.length → f (gi all j) ≤ f (gi all (scanM f ys k r).2)
  | [], k, r, hd, hj, hr, hf, hl => by
    have hkl : all.length ≤ k := by have := congrArg List.length hd; rw [List.length_drop] at this; simp at this; omega
    rcases hr with ⟨h1, h2⟩ | ⟨h1, _⟩
    · exact ⟨h1, fun j hjl => by simp only [scanM]; rw [h2]; exact hj j (by omega)⟩
    · omega
  | y :: ys, k, r, hd, hj, hr, hf, hl => by
    have hk : k < all.length := by have := congrArg List.length hd; rw [List.length_drop] at this; simp at this; omega
    have hy : gi all k = y := by
      rw [gi_get all k hk]
      rw [List.drop_eq_getElem_cons hk] at hd
      exact (List.cons.inj hd).1
    have hd' : all.drop (k + 1) = ys := by
      rw [List.drop_eq_getElem_cons hk] at hd
      exact (List.cons.inj hd).2
    simp only [scanM]
    by_cases h : r.1 < f y
    · rw [if_pos h]
      exact scanM_spec f all ys (k + 1) (f y, k) hd' (fun j hjk => by
        by_cases e : j = k
        · rw [e, hy]; exact Int.le_refl _
        · have := hj j (by omega); simp only; omega) (.inl ⟨hk, by simp only; rw [hy]⟩) hf hl
    · rw [if_neg h]
      refine scanM_spec f all ys (k + 1) r hd' (fun j hjk => by
        by_cases e : j = k
        · rw [e, hy]; omega
        · exact hj j (by omega)) ?_ hf hl
      rcases hr with hr | ⟨_, h2⟩
      · exact .inl hr
      · have := hf y; omega
end Go.Proofs.Ytdkacdfhapgboaa

/- 'least' drops what is used latest; the two bounds of SimCompetes in plain words. No program in sight. -/
set_option linter.unusedVariables false
set_option linter.unusedSimpArgs false
namespace Go.Proofs.Ytdkacdfhapgboaa

theorem split_at (l : List Int) (a : Nat) (h : a < l.length) : l = l.take a ++ gi l a :: l.drop (a + 1) := by
  rw [gi_get l a h, ← List.drop_eq_getElem_cons h, List.take_append_drop]
theorem set_split (l : List Int) (a : Nat) (x : Int) (h : a < l.length) : l.set a x = l.take a ++ x :: l.drop (a + 1) := by
  conv => lhs; rw [split_at l a h]
  have e : (l.take a).length = a := by rw [List.length_take]; omega
  rw [List.set_append_right _ _ (by omega), e]
  simp
theorem set_mem (l : List Int) (a : Nat) (x : Int) (h : a < l.length) (hn : l.Nodup) (hx : x ∉ l) : (l.set a x).Nodup ∧ ∀ y, y ∈ l.set a x ↔ y = x ∨ (y ∈ l ∧ y ≠ gi l a) := by
  rw [set_split l a x h]
  have hs := split_at l a h
  obtain ⟨p, hp⟩ : ∃ p, l.take a = p := ⟨_, rfl⟩
  obtain ⟨q, hq⟩ : ∃ q, l.drop (a + 1) = q := ⟨_, rfl⟩
  obtain ⟨z, hz⟩ : ∃ z, gi l a = z := ⟨_, rfl⟩
  rw [hp, hq, hz] at hs
  rw [hp, hq, hz]
  rw [hs] at hn hx
  rw [hs]
  rw [List.nodup_append] at hn
  obtain ⟨n1, n2, n3⟩ := hn
  rw [List.nodup_cons] at n2
  simp only [List.mem_append, List.mem_cons, not_or] at hx
  constructor
  · rw [List.nodup_append]
    refine ⟨n1, List.nodup_cons.2 ⟨hx.2.2, n2.2⟩, fun u hu v hv e => ?_⟩
    rcases List.mem_cons.1 hv with rfl | hv
    · exact hx.1 (e ▸ hu)
    · exact n3 u hu v (by simp [hv]) e
  · intro y
    simp only [List.mem_append, List.mem_cons]
    constructor
    · rintro (h | h | h)
      · exact .inr ⟨.inl h, fun e => n3 y h z (by simp) e⟩
      · exact .inl h
      · exact .inr ⟨.inr (.inr h), fun e => n2.1 (e ▸ h)⟩
    · rintro (h | ⟨h | h | h, h2⟩)
      · exact .inr (.inl h)
      · exact .inl h
      · exact absurd h h2
      · exact .inr (.inr h)
theorem nextU_nonneg (L : Nat) (xs : List Int) (y : Int) : 0 ≤ nextU L xs y := by
  unfold nextU
  split <;> omega
theorem nextU_idx {L : Nat} {xs : List Int} (hL : xs.length < L) {y z : Int} (h : nextU L xs y ≤ nextU L xs z) : xs.idxOf y ≤ xs.idxOf z := by
  unfold nextU at h
  have hy := List.idxOf_le_length (a := y) (l := xs)
  by_cases hz : z ∈ xs
  · have h1 := List.idxOf_lt_length_of_mem hz
    rw [if_pos hz] at h
    by_cases hy2 : y ∈ xs
    · rw [if_pos hy2] at h; omega
    · rw [if_neg hy2] at h; omega
  · rw [List.idxOf_eq_length hz]
    exact hy
theorem leastL_bel (L w : Nat) (hw : 1 ≤ w) : ∀ (xs here : List Int), here.Nodup → here.length ≤ w → xs.length ≤ L → Bel w here xs (leastL L w here xs)
  | [], here, _, _, _ => .nil here
  | x :: xs, here, hn, hl, hL => by
    rw [List.length_cons] at hL
    simp only [leastL]
    by_cases hx : x ∈ here
    · rw [if_pos hx]
      exact .hit hx (leastL_bel L w hw xs here hn hl (by omega))
    · rw [if_neg hx]
      by_cases hr : here.length < w
      · rw [if_pos hr]
        have hn' : (here ++ [x]).Nodup := by
          rw [List.nodup_append]
          exact ⟨hn, by simp, fun u hu v hv e => by simp at hv; exact hx (hv ▸ e ▸ hu)⟩
        exact .room hx (by simp; omega) hn' (fun y => by simp [or_comm]) (leastL_bel L w hw xs _ hn' (by simp; omega) (by omega))
      · rw [if_neg hr]
        obtain ⟨h1, h2⟩ := scanM_spec (nextU L xs) here here 0 (-1, 0) (by simp) (fun j hj => absurd hj (Nat.not_lt_zero _)) (.inr ⟨rfl, rfl⟩) (nextU_nonneg L xs) (by omega)
        obtain ⟨h3, h4⟩ := set_mem here (farI L xs here) x h1 hn hx
        refine .drop (z := gi here (farI L xs here)) hx (gi_mem _ _ h1) (fun y hy => ?_) (by rw [List.length_set]; omega) h3 h4 (leastL_bel L w hw xs _ h3 (by rw [List.length_set]; omega) (by omega))
        obtain ⟨j, hj, e⟩ := List.getElem_of_mem hy
        have := h2 j hj
        rw [gi_get here j hj, e] at this
        exact nextU_idx (by omega) this
/-- The two bounds. -/
theorem competes_bounds (k h : Nat) (hk : h ≤ k) (hh : 1 ≤ h) (xs : List Int) : lruMiss k [] xs * (k - h + 1) ≤ k * (leastL xs.length h [] xs + h) ∧ leastL xs.length k [] xs ≤ lruMiss k [] xs := by
  constructor
  · exact competes_new k h hk hh (bel_serve (leastL_bel xs.length h hh xs [] (by simp) (by simp) (Nat.le_refl _)))
  · have := belady (leastL_bel xs.length k (by omega) xs [] (by simp) (by simp) (Nat.le_refl _)) (lru_run k (by omega) xs [] [] (by simp) (by simp) (by simp)) 0 (by simp) (by simp) (by simp) (fun t _ => by simp [cnt])
    omega
/-- A cache with one set. -/
theorem ofSet_one (xs : List Int) (s : Nat) (hs : s = 0) : ofSet 1 s xs = xs := by
  unfold ofSet
  rw [List.filter_eq_self]
  intro x _
  have := setNo_ltn 1 (Nat.le_refl _) x
  simp only [beq_iff_eq]
  omega
theorem hit_one (line ways : Int) (h1 : 1 ≤ line) (hd : 4294967296 % line = 0) (l : List Int) (hu : ∀ x ∈ l, 0 ≤ x ∧ x < 4294967296) (i : Nat) (hi : i < l.length) :
    gb (replayL line (1 : Nat) ways (List.replicate 1 []) l).2 i = decide (gi l i / line ∈ (lru [] (lns line (l.take i))).take ways.toNat) := by
  have := hit_lru line ways 1 h1 hd (Nat.le_refl _) l hu i hi
  rw [ofSet_one _ _ (by have := setNo_ltn 1 (Nat.le_refl _) (gi l i / line); omega), lruK_nil] at this
  exact this
theorem lruMiss_snoc (k : Nat) (x : Int) : ∀ (xs l : List Int), lruMiss k l (xs ++ [x]) = lruMiss k l xs + (if x ∈ (lru l xs).take k then 0 else 1)
  | [], l => by
    show (if x ∈ l.take k then 0 else 1) + 0 = 0 + (if x ∈ l.take k then 0 else 1)
    omega
  | y :: xs, l => by
    show (if y ∈ l.take k then 0 else 1) + lruMiss k (frontL l y) (xs ++ [x]) = (if y ∈ l.take k then 0 else 1) + lruMiss k (frontL l y) xs + (if x ∈ (lru (frontL l y) xs).take k then 0 else 1)
    rw [lruMiss_snoc k x xs]
    omega
theorem lns_take (line : Int) (l : List Int) (i : Nat) (hi : i < l.length) : lns line (l.take (i + 1)) = lns line (l.take i) ++ [gi l i / line] := by
  rw [List.take_succ_eq_append_getElem hi, gi_get l i hi]
  unfold lns
  rw [List.map_append]
  rfl
/-- Misses, counted one by one. -/
theorem miss_count (line ways : Int) (h1 : 1 ≤ line) (hd : 4294967296 % line = 0) (l : List Int) (hu : ∀ x ∈ l, 0 ≤ x ∧ x < 4294967296) (i : Nat) (hi : i < l.length) :
    lruMiss ways.toNat [] (lns line (l.take (i + 1))) = lruMiss ways.toNat [] (lns line (l.take i)) + (if gb (replayL line (1 : Nat) ways (List.replicate 1 []) l).2 i then 0 else 1) := by
  rw [lns_take line l i hi, lruMiss_snoc, hit_one line ways h1 hd l hu i hi]
  simp
end Go.Proofs.Ytdkacdfhapgboaa

/- Counters and return stacks in plain words. No program in sight. -/
set_option linter.unusedVariables false
set_option linter.unusedSimpArgs false
namespace Go.Proofs.Ytdkacdfhapgboaa
open Go.RowKit

theorem trainC_step (v : Int) (t : Bool) (h : 0 ≤ v ∧ v ≤ 3) : (0 ≤ trainC v t ∧ trainC v t ≤ 3) ∧ trainC v t - v ≤ 1 ∧ v - trainC v t ≤ 1 := by
  cases t <;> simp only [trainC] <;> omega
theorem trainC_up (v : Int) (h : 0 ≤ v ∧ v ≤ 3) : trainC v true = if v < 3 then v + 1 else 3 := by
  simp only [trainC]
  split <;> omega
theorem trainH_zero (t : Bool) : trainH 0 0 t = 0 := by
  cases t <;> kernel_rfl
theorem callL_room (r : Int) (rs : List Int) (a : Int) (h : (rs.length : Int) < r) : callL r rs a = rs ++ [a] := by
  unfold callL
  have e : decide (r < ((rs ++ [a]).length : Int)) = false := by simp; omega
  rw [e]
theorem retB_last (rs : List Int) (a : Int) : retB (rs ++ [a]) a = true := by
  unfold retB
  have e : (rs ++ [a]).length = rs.length + 1 := by simp
  rw [e]
  simp [gi, List.getD_eq_getElem?_getD]
theorem xor_zero (x : Int) (h : 0 ≤ x ∧ x < 4294967296) : bits .xor .u32 x 0 = x := by
  unfold bits
  dsimp only
  rw [IntKind.wrap_u32]
  have e : (x.toNat : Int) = x := Int.toNat_of_nonneg h.1
  have hb : IntKind.u32.bits = 32 := rfl
  simp [hb]
  omega
theorem ctrI_zero (pc : Int) (n : Nat) (h : 0 ≤ pc ∧ pc < 4294967296) : ctrI pc 0 n = (pc / 4) % (n : Int) := by
  unfold ctrI
  rw [xor_zero _ ⟨by omega, by omega⟩]
end Go.Proofs.Ytdkacdfhapgboaa

/- The feeder's other handlers: atomic, branch, ret. -/
set_option linter.unusedVariables false
set_option linter.unusedSimpArgs false
namespace Go.Proofs.Ytdkacdfhapgboaa
open Go.RowKit

theorem HandW.below {w W : World} {B fb o gC cC gL cL : Nat} {vC vL : List Value} {LC LL : List (List Int)} {lineC waysC ll lw : Int} (h : HandW w B fb o gC cC gL cL vC vL LC LL lineC waysC ll lw) (hb : Below w.heap.size w W) : HandW W B fb o gC cC gL cL vC vL LC LL lineC waysC ll lw where
  c := h.c.upd (Upd.of_below hb) fun k hk e => by have := (h.c.foot_lt k hk).2; omega
  l := h.l.upd (Upd.of_below hb) fun k hk e => by have := (h.l.foot_lt k hk).2; omega
  apart := h.apart
  ge := Nat.le_trans h.ge hb.size
  sC := h.sC
  sL := h.sL
  mC := h.mC
  mL := h.mL
  fC := h.fC
  fL := h.fL
  c0 := bkeep hb h.c0
  c1 := bkeep hb h.c1
  c2 := bkeep hb h.c2
  c3 := bkeep hb h.c3
  l0 := bkeep hb h.l0
  l1 := bkeep hb h.l1
  l2 := bkeep hb h.l2
  l3 := bkeep hb h.l3

attribute [local irreducible] World.setCell in
set_option maxRecDepth 100000 in
set_option maxHeartbeats 2000000 in
theorem atomic_any (B fb gC cC gL cL cb co : Nat) (vC vL : List Value) (LC LL : List (List Int)) (lineC waysC ll lw : Int) (cur : Array Value) (t : TypeId) (x1 x2 x3 x4 kind thread pc ea eb en : Int) (w : World) (H : HandW w B fb 16 gC cC gL cL vC vL LC LL lineC waysC ll lw)
    (hcb : w.heap[cb]? = some (.cells cur t (0, 0))) (e1 : cur[co + 4]? = some (.int .i64 x1)) (e2 : cur[co + 5]? = some (.int .i64 x2)) (e3 : cur[co + 6]? = some (.int .i64 x3)) (e4 : cur[co + 7]? = some (.int .i64 x4)) (hcC : ¬ foot gC vC LC.length cb) (hcL : ¬ foot gL vL LL.length cb)
    (hx1 : 0 ≤ x1 ∧ x1 ≤ 2199023255552) (hx2 : 0 ≤ x2 ∧ x2 ≤ 2199023255552) (hx3 : 0 ≤ x3 ∧ x3 ≤ 2199023255552) (hx4 : 0 ≤ x4 ∧ x4 ≤ 2199023255552) (ha : 0 ≤ ea ∧ ea < 4294967296) (hn : 1 ≤ en ∧ en ≤ 65536) :
    Calls Try.prog 84 #[.pointer (some ⟨fb, 0, none⟩), .pointer (some ⟨cb, co, none⟩), .agg #[.int .i64 kind, .int .i64 thread, .int .u32 pc, .int .u32 ea, .int .u32 eb, .int .i64 en]] w fun e w' => e = .returned (.tuple #[]) ∧
      ∃ vC' vL' W0 W1, MemI W0 B gC cC gL cL vC' vC vL' vL (runL LC.length waysC LC (linI lineC ea en)).1 (farL lineC ll LL.length lw LL (runL LC.length waysC LC (linI lineC ea en)).2).1 W1 ∧ Below w.heap.size w W0 ∧
        w' = (((W1.setCell ⟨cb, co + 4, none⟩ (.int .i64 (x1 + 1))).setCell ⟨cb, co + 5, none⟩ (.int .i64 (x2 + ((runL LC.length waysC LC (linI lineC ea en)).2.length : Int)))).setCell ⟨cb, co + 6, none⟩ (.int .i64 (x3 + ((farL lineC ll LL.length lw LL (runL LC.length waysC LC (linI lineC ea en)).2).2 : Int)))).setCell ⟨cb, co + 7, none⟩ (.int .i64 (x4 + 1)) := by
  go_enter Try.func84, Try.ntmps84
  go_wp2_with fail
  obtain ⟨V, hV⟩ : ∃ V, w.alloc (.cells #[.int .i64 kind, .int .i64 thread, .int .u32 pc, .int .u32 ea, .int .u32 eb, .int .i64 en] 71) = V := ⟨_, rfl⟩
  have hb : Below w.heap.size w V := by rw [← hV]; exact balloc _ _
  have hvb := belowBox hb hcb
  have hlt := (Array.getElem?_eq_some_iff.1 hvb).1
  rw [hV]
  refine (load_any B fb gC cC gL cL cb co vC vL LC LL lineC waysC ll lw cur t x1 x2 x3 kind thread pc ea eb en V (H.below hb) hvb e1 e2 e3 hcC hcL hx1 hx2 hx3 ha hn).mono ?_
  rintro e w' ⟨rfl, vC', vL', W0, W1, hM, hB, rfl⟩
  have hl1 : (runL LC.length waysC LC (linI lineC ea en)).1.length = LC.length := runL_length _ _ _ _
  have hl2 : (farL lineC ll LL.length lw LL (runL LC.length waysC LC (linI lineC ea en)).2).1.length = LL.length := farL_length _ _ _ _ _ _
  have hc1 : W1.heap[cb]? = some (.cells cur t (0, 0)) := ((hM.out (b := cb) (by have := hB.size; omega) (by rw [hl1]; exact hcC) (by rw [hl2]; exact hcL)).1).trans (belowBox hB hvb)
  have y4 := boxAt hc1 e4
  have d0 : ∀ o, W1.frozen? ⟨cb, o, none⟩ = false := fun o => boxFree hc1
  have HM := Lib.hid hM
  have HB := Lib.hid (bvia hb hB (Nat.le_refl _))
  clear hM hB hc1 hvb hcb
  go_wp2_with fail
  go_end0
  exact ⟨rfl, vC', vL', W0, W1, HM.out, HB.out, rfl⟩

/-- Behind a branch or a return: one number is stored, the predictor moves, and a second number is stored if it was wrong. -/
structure BrE (w : World) (cb i j : Nat) (x y : Int) (right : Bool) (F : Nat → Prop) (R : World → Prop) (w' : World) : Prop where
  ex : ∃ W0 W1, Below w.heap.size w W0 ∧ R W1 ∧ Upd F (W0.setCell ⟨cb, i, none⟩ (.int .i64 x)) W1 ∧ w' = if right then W1 else W1.setCell ⟨cb, j, none⟩ (.int .i64 y)

attribute [local irreducible] World.setCell in
set_option maxRecDepth 100000 in
set_option maxHeartbeats 2000000 in
theorem branch_any (B fb pb cb co : Nat) (t r : Int) (h g c : Nat) (cs : List Int) (hist : Int) (v : Value) (rs : List Int) (cur : Array Value) (ct : TypeId) (x1 x2 kind thread pc ea eb en : Int) (w : World) (H : OwnP w B pb t h r g c cs hist v rs)
    (hp : w.cell? ⟨fb, 31, none⟩ = some (.pointer (some ⟨pb, 0, none⟩))) (hcb : w.heap[cb]? = some (.cells cur ct (0, 0))) (e1 : cur[co + 10]? = some (.int .i64 x1)) (e2 : cur[co + 11]? = some (.int .i64 x2)) (n0 : cb ≠ fb) (n1 : cb ≠ pb) (n2 : cb ≠ g) (n3 : blk v ≠ some cb)
    (hx1 : 0 ≤ x1 ∧ x1 ≤ 2199023255552) (hx2 : 0 ≤ x2 ∧ x2 ≤ 2199023255552) (hh : h ≤ 12) (hn : 1 ≤ cs.length) (hpc : 0 ≤ pc ∧ pc < 4294967296) (hi : 0 ≤ hist ∧ hist < 4294967296) (hcs : ∀ x ∈ cs, 0 ≤ x ∧ x ≤ 3) (heb : 0 ≤ eb ∧ eb ≤ 1) :
    Calls Try.prog 85 #[.pointer (some ⟨fb, 0, none⟩), .pointer (some ⟨cb, co, none⟩), .agg #[.int .i64 kind, .int .i64 thread, .int .u32 pc, .int .u32 ea, .int .u32 eb, .int .i64 en]] w fun e w' => e = .returned (.tuple #[]) ∧
      BrE w cb (co + 10) (co + 11) (x1 + 1) (x2 + 1) (trainR (gi cs (ctrI pc hist cs.length).toNat) (eb == 1)) (fun k => k = pb ∨ k = g) (fun W1 => OwnP W1 B pb t h r g c (cs.set (ctrI pc hist cs.length).toNat (trainC (gi cs (ctrI pc hist cs.length).toNat) (eb == 1))) (trainH h hist (eb == 1)) v rs) w' := by
  obtain ⟨W0, hW0⟩ : ∃ W0, w.alloc (.cells #[.int .i64 kind, .int .i64 thread, .int .u32 pc, .int .u32 ea, .int .u32 eb, .int .i64 en] 71) = W0 := ⟨_, rfl⟩
  have hb : Below w.heap.size w W0 := by rw [← hW0]; exact balloc _ _
  have hx := heap_alloc_new w (.cells #[.int .i64 kind, .int .i64 thread, .int .u32 pc, .int .u32 ea, .int .u32 eb, .int .i64 en] 71)
  rw [hW0] at hx
  have hcl := (Array.getElem?_eq_some_iff.1 hcb).1
  have hc0 := belowBox hb hcb
  have hp0 := bkeep hb hp
  have y1 := boxAt hc0 e1
  have d0 : ∀ o, W0.frozen? ⟨cb, o, none⟩ = false := fun o => boxFree hc0
  obtain ⟨V, hV⟩ : ∃ V, W0.setCell ⟨cb, co + 10, none⟩ (.int .i64 (x1 + 1)) = V := ⟨_, rfl⟩
  have hu : Upd (fun k => k = cb) W0 V := by rw [← hV]; exact Upd.setCell W0 ⟨cb, co + 10, none⟩ _
  have hxV : V.heap[w.heap.size]? = some (.cells #[.int .i64 kind, .int .i64 thread, .int .u32 pc, .int .u32 ea, .int .u32 eb, .int .i64 en] 71 (0, 0)) := (hu.block _ (Array.getElem?_eq_some_iff.1 hx).1 (fun (e : w.heap.size = cb) => by omega)).trans hx
  have hfl := World.block_lt_of_cell? W0 _ hp0
  dsimp only at hfl
  have hpV : V.cell? ⟨fb, 31, none⟩ = some (.pointer (some ⟨pb, 0, none⟩)) := by
    unfold World.cell? at hp0 ⊢
    dsimp only at hp0 ⊢
    rw [hu.block fb hfl (fun (e : fb = cb) => n0 e.symm)]
    exact hp0
  have hOV : OwnP V B pb t h r g c cs hist v rs := (H.upd (Upd.of_below hb) fun k hk e => by
    rcases hk with h1 | h1 | h1
    · have := (Array.getElem?_eq_some_iff.1 H.box).1; omega
    · have := (H.cnt.lt k (by rw [h1]; rfl)).2; omega
    · have := (H.ret.lt k h1).2; omega).upd hu fun k hk (e : k = cb) => by
    rcases hk with h1 | h1 | h1
    · exact n1 (e.symm.trans h1)
    · exact n2 (e.symm.trans h1)
    · exact n3 (by rw [h1, e])
  have hcV : ∃ cur', V.heap[cb]? = some (.cells cur' ct (0, 0)) ∧ cur'[co + 11]? = some (.int .i64 x2) := by
    refine ⟨cur.set! (co + 10) (.int .i64 (x1 + 1)), by rw [← hV]; exact set1_heap hc0 (co + 10) _, ?_⟩
    simp [Array.getElem?_setIfInBounds]
    exact e2
  obtain ⟨cur', hcV, e2'⟩ := hcV
  obtain ⟨_, _, z2, _, z4, _, _⟩ := box6 hxV
  have HOV := Lib.hid hOV
  have HCV := Lib.hid hcV
  have HB := Lib.hid hb
  have HV := Lib.hid hV
  clear hx hxV hOV hcV hu hb hc0 hcb H
  go_enter Try.func85, Try.ntmps85
  go_wp2_with fail
  go_still_tail 9, (by kernel_rfl)
  go_wp2_with fail
  obtain ⟨Vd, hVd⟩ : ∃ X, V.drew = X := ⟨_, rfl⟩
  have hud : Upd (fun _ => False) V Vd := by rw [← hVd]; exact Upd.drew _ V
  rw [hVd]
  refine (train_any B pb t r h g c cs hist v rs pc (eb == 1) Vd (HOV.out.upd hud fun _ _ h => h) hh hn hpc hi hcs).mono ?_
  rintro e W1 ⟨rfl, hO1, hu1⟩
  have hvl := (Array.getElem?_eq_some_iff.1 HCV.out).1
  have hcd : Vd.heap[cb]? = some (.cells cur' ct (0, 0)) := (hud.block cb hvl fun h => h).trans HCV.out
  have hc1 : W1.heap[cb]? = some (.cells cur' ct (0, 0)) := (hu1.block cb (Array.getElem?_eq_some_iff.1 hcd).1 fun h => h.elim n1 n2).trans hcd
  have y2 := boxAt hc1 e2'
  have d2 : ∀ o, W1.frozen? ⟨cb, o, none⟩ = false := fun o => boxFree hc1
  have HO1 := Lib.hid hO1
  have HU1 := Lib.hid (show Upd (fun k => k = pb ∨ k = g) V W1 from (hud.mono fun _ h => h.elim).trans hu1 fun k h => .inl h)
  obtain ⟨b, hb⟩ : ∃ b, trainR (gi cs (ctrI pc hist cs.length).toNat) (eb == 1) = b := ⟨_, rfl⟩
  rw [hb]
  have HBB := Lib.hid hb
  clear hO1 hu1 hc1 hcd hvl hud hVd hb
  cases b
  · go_wp2_with fail
    go_end0
    exact ⟨rfl, W0, W1, HB.out, HO1.out, by rw [HV.out]; exact HU1.out, by rw [HBB.out]; rfl⟩
  · go_wp2_with fail
    go_end0
    exact ⟨rfl, W0, W1, HB.out, HO1.out, by rw [HV.out]; exact HU1.out, by rw [HBB.out]; rfl⟩
attribute [local irreducible] World.setCell in
set_option maxRecDepth 100000 in
set_option maxHeartbeats 2000000 in
theorem retH_any (B fb pb cb co : Nat) (t h r : Int) (g c : Nat) (cs : List Int) (hist : Int) (v : Value) (rs : List Int) (cur : Array Value) (ct : TypeId) (x1 x2 kind thread pc ea eb en : Int) (w : World) (H : OwnP w B pb t h r g c cs hist v rs)
    (hp : w.cell? ⟨fb, 31, none⟩ = some (.pointer (some ⟨pb, 0, none⟩))) (hcb : w.heap[cb]? = some (.cells cur ct (0, 0))) (e1 : cur[co + 12]? = some (.int .i64 x1)) (e2 : cur[co + 13]? = some (.int .i64 x2)) (n0 : cb ≠ fb) (n1 : cb ≠ pb) (n2 : cb ≠ g) (n3 : blk v ≠ some cb)
    (hx1 : 0 ≤ x1 ∧ x1 ≤ 2199023255552) (hx2 : 0 ≤ x2 ∧ x2 ≤ 2199023255552) (hrl : rs.length ≤ 1000) :
    Calls Try.prog 86 #[.pointer (some ⟨fb, 0, none⟩), .pointer (some ⟨cb, co, none⟩), .agg #[.int .i64 kind, .int .i64 thread, .int .u32 pc, .int .u32 ea, .int .u32 eb, .int .i64 en]] w fun e w' => e = .returned (.tuple #[]) ∧
      BrE w cb (co + 12) (co + 13) (x1 + 1) (x2 + 1) (retB rs ea) (fun k => k = pb ∨ blk v = some k) (fun W1 => ∃ v', OwnP W1 B pb t h r g c cs hist v' rs.dropLast ∧ (blk v' = none ∨ blk v' = blk v)) w' := by
  obtain ⟨W0, hW0⟩ : ∃ W0, w.alloc (.cells #[.int .i64 kind, .int .i64 thread, .int .u32 pc, .int .u32 ea, .int .u32 eb, .int .i64 en] 71) = W0 := ⟨_, rfl⟩
  have hb : Below w.heap.size w W0 := by rw [← hW0]; exact balloc _ _
  have hx := heap_alloc_new w (.cells #[.int .i64 kind, .int .i64 thread, .int .u32 pc, .int .u32 ea, .int .u32 eb, .int .i64 en] 71)
  rw [hW0] at hx
  have hcl := (Array.getElem?_eq_some_iff.1 hcb).1
  have hc0 := belowBox hb hcb
  have hp0 := bkeep hb hp
  have y1 := boxAt hc0 e1
  have d0 : ∀ o, W0.frozen? ⟨cb, o, none⟩ = false := fun o => boxFree hc0
  obtain ⟨V, hV⟩ : ∃ V, W0.setCell ⟨cb, co + 12, none⟩ (.int .i64 (x1 + 1)) = V := ⟨_, rfl⟩
  have hu : Upd (fun k => k = cb) W0 V := by rw [← hV]; exact Upd.setCell W0 ⟨cb, co + 12, none⟩ _
  have hxV : V.heap[w.heap.size]? = some (.cells #[.int .i64 kind, .int .i64 thread, .int .u32 pc, .int .u32 ea, .int .u32 eb, .int .i64 en] 71 (0, 0)) := (hu.block _ (Array.getElem?_eq_some_iff.1 hx).1 (fun (e : w.heap.size = cb) => by omega)).trans hx
  have hfl := World.block_lt_of_cell? W0 _ hp0
  dsimp only at hfl
  have hpV : V.cell? ⟨fb, 31, none⟩ = some (.pointer (some ⟨pb, 0, none⟩)) := by
    unfold World.cell? at hp0 ⊢
    dsimp only at hp0 ⊢
    rw [hu.block fb hfl (fun (e : fb = cb) => n0 e.symm)]
    exact hp0
  have hOV : OwnP V B pb t h r g c cs hist v rs := (H.upd (Upd.of_below hb) fun k hk e => by
    rcases hk with h1 | h1 | h1
    · have := (Array.getElem?_eq_some_iff.1 H.box).1; omega
    · have := (H.cnt.lt k (by rw [h1]; rfl)).2; omega
    · have := (H.ret.lt k h1).2; omega).upd hu fun k hk (e : k = cb) => by
    rcases hk with h1 | h1 | h1
    · exact n1 (e.symm.trans h1)
    · exact n2 (e.symm.trans h1)
    · exact n3 (by rw [h1, e])
  have hcV : ∃ cur', V.heap[cb]? = some (.cells cur' ct (0, 0)) ∧ cur'[co + 13]? = some (.int .i64 x2) := by
    refine ⟨cur.set! (co + 12) (.int .i64 (x1 + 1)), by rw [← hV]; exact set1_heap hc0 (co + 12) _, ?_⟩
    simp [Array.getElem?_setIfInBounds]
    exact e2
  obtain ⟨cur', hcV, e2'⟩ := hcV
  obtain ⟨_, _, _, z3, _, _, _⟩ := box6 hxV
  have HOV := Lib.hid hOV
  have HCV := Lib.hid hcV
  have HB := Lib.hid hb
  have HV := Lib.hid hV
  clear hx hxV hOV hcV hu hb hc0 hcb H
  go_enter Try.func86, Try.ntmps86
  go_wp2_with fail
  go_still_tail 6, (by kernel_rfl)
  go_wp2_with fail
  obtain ⟨Vd, hVd⟩ : ∃ X, V.drew = X := ⟨_, rfl⟩
  have hud : Upd (fun _ => False) V Vd := by rw [← hVd]; exact Upd.drew _ V
  rw [hVd]
  refine (ret_any B pb t h r g c cs hist v rs ea Vd (HOV.out.upd hud fun _ _ h => h) hrl).mono ?_
  rintro e W1 ⟨rfl, v', hO1, hu1, hbv⟩
  have hvl := (Array.getElem?_eq_some_iff.1 HCV.out).1
  have hcd : Vd.heap[cb]? = some (.cells cur' ct (0, 0)) := (hud.block cb hvl fun h => h).trans HCV.out
  have hc1 : W1.heap[cb]? = some (.cells cur' ct (0, 0)) := (hu1.block cb (Array.getElem?_eq_some_iff.1 hcd).1 fun h => h.elim n1 n3).trans hcd
  have y2 := boxAt hc1 e2'
  have d2 : ∀ o, W1.frozen? ⟨cb, o, none⟩ = false := fun o => boxFree hc1
  have HO1 := Lib.hid (And.intro hO1 hbv)
  have HU1 := Lib.hid (show Upd (fun k => k = pb ∨ blk v = some k) V W1 from (hud.mono fun _ h => h.elim).trans hu1 fun k h => .inl h)
  obtain ⟨b, hb⟩ : ∃ b, retB rs ea = b := ⟨_, rfl⟩
  rw [hb]
  have HBB := Lib.hid hb
  clear hO1 hu1 hbv hc1 hcd hvl hud hVd hb
  cases b
  · go_wp2_with fail
    go_end0
    exact ⟨rfl, W0, W1, HB.out, ⟨v', HO1.out⟩, by rw [HV.out]; exact HU1.out, by rw [HBB.out]; rfl⟩
  · go_wp2_with fail
    go_end0
    exact ⟨rfl, W0, W1, HB.out, ⟨v', HO1.out⟩, by rw [HV.out]; exact HU1.out, by rw [HBB.out]; rfl⟩

/-- What wellFormed asks. -/
def wfB (kind eb en : Int) : Bool := if kind = 1 ∨ kind = 2 ∨ kind = 3 ∨ kind = 4 then decide (1 ≤ en) && decide (en ≤ 65536) else if kind = 5 then decide (eb ≤ 1) else true
set_option maxHeartbeats 1000000 in
theorem wf_any (kind thread pc ea eb en : Int) (w : World) :
    Calls Try.prog 62 #[.agg #[.int .i64 kind, .int .i64 thread, .int .u32 pc, .int .u32 ea, .int .u32 eb, .int .i64 en]] w fun e w' => e = .returned (.bool (wfB kind eb en)) ∧ Below w.heap.size w w' := by
  by_cases hm : kind = 1 ∨ kind = 2 ∨ kind = 3 ∨ kind = 4
  · by_cases h1 : 1 ≤ en
    · by_cases h2 : en ≤ 65536
      · have hw : wfB kind eb en = true := by unfold wfB; rw [if_pos hm, decide_eq_true h1, decide_eq_true h2]; rfl
        rw [hw]
        exact wf_mem kind thread pc ea eb en w hm ⟨h1, h2⟩
      · have hw : wfB kind eb en = false := by unfold wfB; rw [if_pos hm, decide_eq_false h2, Bool.and_false]
        rw [hw]
        clear hw
        rcases hm with rfl | rfl | rfl | rfl
        all_goals
          go_enter Try.func62, Try.ntmps62
          go_wp2
          go_ret
          exact ⟨rfl, balloc w _⟩
    · have hw : wfB kind eb en = false := by unfold wfB; rw [if_pos hm, decide_eq_false h1]; rfl
      rw [hw]
      clear hw
      rcases hm with rfl | rfl | rfl | rfl
      all_goals
        go_enter Try.func62, Try.ntmps62
        go_wp2
        go_ret
        exact ⟨rfl, balloc w _⟩
  · by_cases h5 : kind = 5
    · subst h5
      have hw : wfB 5 eb en = decide (eb ≤ 1) := by unfold wfB; rw [if_neg hm, if_pos rfl]
      rw [hw]
      clear hw hm
      go_enter Try.func62, Try.ntmps62
      go_wp2
      go_ret
      exact ⟨rfl, balloc w _⟩
    · have hw : wfB kind eb en = true := by unfold wfB; rw [if_neg hm, if_neg h5]
      rw [hw]
      clear hw
      have k1 : (kind == 1) = false := by simp; omega
      have k2 : (kind == 2) = false := by simp; omega
      have k3 : (kind == 3) = false := by simp; omega
      have k4 : (kind == 4) = false := by simp; omega
      have k5 : (kind == 5) = false := by simp; omega
      go_enter Try.func62, Try.ntmps62
      go_wp2
      go_ret
      exact ⟨rfl, balloc w _⟩
end Go.Proofs.Ytdkacdfhapgboaa

/- sim.Feed in full: the handlers' map, any kind; what a feed computes, event by event. -/
set_option linter.unusedVariables false
set_option linter.unusedSimpArgs false
namespace Go.Proofs.Ytdkacdfhapgboaa
open Go.RowKit

theorem run_mapMiss {P : Program} {t kt et : TypeId} {kd : IntKind} {W : World} {b clock : Nat} {es : Array MapEntry} (hu : P.underlying t = some (.map kt et)) (hk : P.underlying kt = some (.int kd)) (hW : W.heap[b]? = some (.map es clock)) (x : Int) {z : Value} (hz : ∀ W, (zeroValue et).run P W = .ok z W) (hn : Instr.findNow (.int kd) (.int kd x) es.toList 0 = some none) :
    (Instr.lookup t (.map (some b)) (.int kd x) true).run P W = .ok (.tuple #[z, .bool false]) W := by
  simp [Instr.lookup, run_underlying hu, MapKept.run_getObj_map hW, MapKept.run_checkKey hk (show MapKept.IsKey (.int kd) (.int kd x) from rfl), MapKept.run_findKey hk hn, hz]
theorem zero_hand (W : World) : (zeroValue 121).run Try.prog W = .ok .nilFunc W := by kernel_rfl
theorem look_miss {W : World} {mb : Nat} (h : W.heap[mb]? = some (.map handE 6)) (kd : Int) (h1 : kd ≠ 1) (h2 : kd ≠ 2) (h3 : kd ≠ 3) (h4 : kd ≠ 4) (h5 : kd ≠ 5) (h7 : kd ≠ 7) :
    (Instr.lookup 118 (.map (some mb)) (.int .i64 kd) true).run Try.prog W = .ok (.tuple #[.nilFunc, .bool false]) W := by
  refine run_mapMiss (P := Try.prog) (t := 118) (W := W) Try.underlying118 Try.underlying3 h kd zero_hand ?_
  have s : ∀ y : Int, kd ≠ y → Instr.sameNow (.int .i64) (.int .i64 kd) (.int .i64 y) = some false := fun y hy => by
    show some (decide (kd = y)) = some false
    rw [decide_eq_false hy]
  simp [Instr.findNow, s 1 h1, s 2 h2, s 3 h3, s 4 h4, s 5 h5, s 7 h7]

/-! ### What a feed computes -/
/-- What does not change: lines and ways of the three caches, how many returns, how much history. -/
structure GC where
  (il iw dl dw ll lw ret : Int)
  h : Nat
/-- A simulation: three caches, the numbers, the predictor. -/
structure GS where
  (I D L : List (List Int))
  N : List (List Int)
  cs : List Int
  hist : Int
  rs : List Int
/-- Where the numbers of an instruction stand, or have to. -/
def posN (N : List (List Int)) (pc : Int) : Nat := (N.takeWhile fun c => decide (gi c 0 < pc)).length
def rowN (N : List (List Int)) (pc : Int) : List (List Int) := if foundB N pc (posN N pc) then N else N.take (posN N pc) ++ (pc :: List.replicate 13 0) :: N.drop (posN N pc)
def add1 (c : List Int) (j : Nat) : List Int := c.set j (gi c j + 1)
/-- One handler: the simulation less its numbers, and the numbers of the instruction. -/
def GS.acts (K : GC) (s : GS) (e : List Int) (c : List Int) : GS × List Int :=
  let near := runL s.D.length K.dw s.D (linI K.dl (gi e 3) (gi e 5))
  let far := farL K.dl K.ll s.L.length K.lw s.L near.2
  if gi e 0 = 1 then
    let near := runL s.I.length K.iw s.I (linI K.il (gi e 2) (gi e 5))
    let far := farL K.il K.ll s.L.length K.lw s.L near.2
    ({ s with I := near.1, L := far.1 }, addC c 1 near.2.length far.2)
  else if gi e 0 = 2 then ({ s with D := near.1, L := far.1 }, addC c 4 near.2.length far.2)
  else if gi e 0 = 3 then ({ s with D := near.1, L := far.1 }, addC c 7 near.2.length far.2)
  else if gi e 0 = 4 then ({ s with D := near.1, L := far.1 }, add1 (addC c 4 near.2.length far.2) 7)
  else if gi e 0 = 5 then
    let i := (ctrI (gi e 2) s.hist s.cs.length).toNat
    let t := gi e 4 == 1
    ({ s with cs := s.cs.set i (trainC (gi s.cs i) t), hist := trainH K.h s.hist t }, if trainR (gi s.cs i) t then add1 c 10 else add1 (add1 c 10) 11)
  else ({ s with rs := s.rs.dropLast }, if retB s.rs (gi e 3) then add1 c 12 else add1 (add1 c 12) 13)
def kindB (k : Int) : Bool := decide (k = 1 ∨ k = 2 ∨ k = 3 ∨ k = 4 ∨ k = 5 ∨ k = 7)
/-- A call alone. -/
def GS.called (K : GC) (s : GS) (e : List Int) : GS := if gi e 0 = 6 then { s with rs := callL K.ret s.rs (gi e 4) } else s
/-- An event; none: a number is too great. -/
def GS.ev (K : GC) (s : GS) (e : List Int) : Option GS :=
  if kindB (gi e 0) && wfB (gi e 0) (gi e 4) (gi e 5) then
    let N1 := rowN (s.called K e).N (gi e 2)
    let i := posN (s.called K e).N (gi e 2)
    let a := (s.called K e).acts K e (gn N1 i)
    if (cntX a.2).any overN then none else some { a.1 with N := N1.set i a.2 }
  else some (s.called K e)
def GS.feed (K : GC) (s : GS) (es : List (List Int)) : Option GS := es.foldlM (GS.ev K) s
theorem GS.feed_append (K : GC) (s : GS) (es fs : List (List Int)) : s.feed K (es ++ fs) = (s.feed K es).bind fun x => x.feed K fs := by
  unfold GS.feed
  rw [List.foldlM_append]
  rfl
theorem GS.feed_snoc (K : GC) (s : GS) (es : List (List Int)) (e : List Int) : s.feed K (es ++ [e]) = (s.feed K es).bind fun x => x.ev K e := by
  rw [GS.feed_append]
  congr 1
  funext x
  simp [GS.feed]
theorem takeWhile_at {α : Type} (p : α → Bool) : ∀ (l : List α) (i : Nat), i ≤ l.length → (∀ k (h : k < l.length), k < i → p l[k] = true) → (∀ h : i < l.length, p l[i] = false) → (l.takeWhile p).length = i
  | [], i, hi, _, _ => by simp at hi; simp [hi]
  | a :: l, 0, _, _, h => by
    have := h (by simp)
    simp at this
    simp [this]
  | a :: l, i + 1, hi, h1, h2 => by
    have ha := h1 0 (by simp) (by omega)
    simp at ha
    rw [List.takeWhile_cons_of_pos ha, List.length_cons, takeWhile_at p l i (by simpa using hi) (fun k hk hki => by have := h1 (k + 1) (by simp; omega) (by omega); simpa using this) (fun h => by have := h2 (by simp; omega); simpa using this)]
theorem posN_find {N : List (List Int)} {pc : Int} {i : Nat} (h : FindI N pc i i) : posN N pc = i := by
  unfold posN
  refine takeWhile_at _ N i h.le.2 (fun k hk hki => ?_) fun hi => ?_
  · have := h.lo k hki
    simp [gn, List.getD_eq_getElem?_getD, hk] at this
    simpa using this
  · have := h.hi i (Nat.le_refl _) hi
    simp [gn, List.getD_eq_getElem?_getD, hi] at this
    simpa using this
end Go.Proofs.Ytdkacdfhapgboaa

/- sim.Feed in full: the list of numbers stays sorted. No program in sight. -/
set_option linter.unusedVariables false
set_option linter.unusedSimpArgs false
namespace Go.Proofs.Ytdkacdfhapgboaa

theorem gn_ins (N : List (List Int)) (r : List Int) (i k : Nat) (hi : i ≤ N.length) : gn (N.take i ++ r :: N.drop i) k = if k < i then gn N k else if k = i then r else gn N (k - 1) := by
  have hl : (N.take i).length = i := by rw [List.length_take]; omega
  unfold gn
  rw [List.getD_eq_getElem?_getD, List.getElem?_append, hl]
  by_cases h1 : k < i
  · rw [if_pos h1, if_pos h1, List.getElem?_take, if_pos h1, List.getD_eq_getElem?_getD]
  · rw [if_neg h1, if_neg h1]
    by_cases h2 : k = i
    · subst h2; simp
    · rw [if_neg h2]
      obtain ⟨m, hm⟩ : ∃ m, k - i = m + 1 := ⟨k - i - 1, by omega⟩
      rw [hm, List.getElem?_cons_succ, List.getElem?_drop, List.getD_eq_getElem?_getD, show i + m = k - 1 by omega]
theorem takeWhile_mem {α : Type} (p : α → Bool) : ∀ (l : List α) (x : α), x ∈ l.takeWhile p → p x = true
  | [], x, h => by simp at h
  | a :: l, x, h => by
    by_cases ha : p a = true
    · rw [List.takeWhile_cons_of_pos ha] at h
      rcases List.mem_cons.1 h with h1 | h1
      · rw [h1]; exact ha
      · exact takeWhile_mem p l x h1
    · simp [List.takeWhile_cons, ha] at h
theorem takeWhile_stop {α : Type} (p : α → Bool) : ∀ (l : List α) (h : (l.takeWhile p).length < l.length), p (l[(l.takeWhile p).length]'h) = true → False
  | [], h, _ => by simp at h
  | a :: l, h, hp => by
    by_cases ha : p a = true
    · have e : (a :: l).takeWhile p = a :: l.takeWhile p := List.takeWhile_cons_of_pos ha
      simp only [e, List.length_cons, List.getElem_cons_succ] at h hp
      exact takeWhile_stop p l (by omega) hp
    · have e : (a :: l).takeWhile p = [] := by simp [List.takeWhile_cons, ha]
      simp only [e, List.length_nil, List.getElem_cons_zero] at hp
      exact ha hp
theorem find_pos {N : List (List Int)} {pc : Int} (hs : sortedN N) : FindI N pc (posN N pc) (posN N pc) := by
  have hp : posN N pc ≤ N.length := by unfold posN; exact (List.takeWhile_sublist _).length_le
  have hlo : ∀ k, k < posN N pc → gi (gn N k) 0 < pc := fun k hk => by
    have hk' : k < (N.takeWhile fun c => decide (gi c 0 < pc)).length := hk
    have h1 := takeWhile_mem _ _ _ (List.getElem_mem hk')
    have h2 : (N.takeWhile fun c => decide (gi c 0 < pc))[k] = N[k]'(by omega) := (List.takeWhile_prefix _).getElem hk'
    rw [h2] at h1
    have h3 : gn N k = N[k]'(by omega) := by simp [gn, List.getD_eq_getElem?_getD, show k < N.length by omega]
    rw [h3]
    simpa using h1
  refine ⟨⟨Nat.le_refl _, hp⟩, hlo, fun k hk hkl => ?_⟩
  have hat : ¬ gi (gn N (posN N pc)) 0 < pc := fun hlt => by
    have hpl : posN N pc < N.length := by omega
    have h3 : gn N (posN N pc) = N[posN N pc] := by simp [gn, List.getD_eq_getElem?_getD, hpl]
    rw [h3] at hlt
    exact takeWhile_stop (fun c => decide (gi c 0 < pc)) N hpl (decide_eq_true hlt)
  by_cases h1 : k = posN N pc
  · rw [h1]; omega
  · have := hs (posN N pc) k (by omega) hkl
    omega
theorem sortedN_row {N : List (List Int)} {pc : Int} (hs : sortedN N) : sortedN (rowN N pc) := by
  have hF := find_pos (pc := pc) hs
  unfold rowN
  by_cases hf : foundB N pc (posN N pc) = true
  · rw [if_pos hf]; exact hs
  · rw [if_neg hf]
    have hi := hF.le.2
    have hgt : ∀ k, posN N pc ≤ k → k < N.length → pc < gi (gn N k) 0 := fun k h1 h2 => by
      have h3 := hF.hi k h1 h2
      have h4 : gi (gn N k) 0 ≠ pc := fun e => by
        by_cases h5 : k = posN N pc
        · subst h5
          exact hf (by simp [foundB, h2, e])
        · have h6 := hs (posN N pc) k (by omega) h2
          have h7 := hF.hi (posN N pc) (Nat.le_refl _) (by omega)
          omega
      omega
    intro a b hab hb
    have hb' : b < N.length + 1 := by simp at hb; omega
    rw [gn_ins N _ _ a hi, gn_ins N _ _ b hi]
    have e0 : gi (pc :: List.replicate 13 0) 0 = pc := rfl
    by_cases h1 : a < posN N pc
    · rw [if_pos h1]
      by_cases h2 : b < posN N pc
      · rw [if_pos h2]; exact hs a b hab (by omega)
      · rw [if_neg h2]
        by_cases h3 : b = posN N pc
        · rw [if_pos h3, e0]; exact hF.lo a h1
        · rw [if_neg h3]; exact hs a (b - 1) (by omega) (by omega)
    · rw [if_neg h1, if_neg (show ¬ b < posN N pc by omega), if_neg (show ¬ b = posN N pc by omega)]
      by_cases h3 : a = posN N pc
      · rw [if_pos h3, e0]; exact hgt (b - 1) (by omega) (by omega)
      · rw [if_neg h3]; exact hs (a - 1) (b - 1) (by omega) (by omega)
/-- The instruction stands at its place. -/
theorem rowN_at {N : List (List Int)} {pc : Int} (hs : sortedN N) : posN N pc < (rowN N pc).length ∧ gi (gn (rowN N pc) (posN N pc)) 0 = pc := by
  have hi := (find_pos (pc := pc) hs).le.2
  unfold rowN
  by_cases hf : foundB N pc (posN N pc) = true
  · rw [if_pos hf]
    simpa [foundB] using hf
  · rw [if_neg hf]
    refine ⟨by simp; omega, ?_⟩
    rw [gn_ins N _ _ _ hi, if_neg (by omega), if_pos rfl]
    rfl
theorem add1_len (c : List Int) (j : Nat) : (add1 c j).length = c.length := by simp [add1]
theorem add1_gi (c : List Int) (j k : Nat) (hj : j < c.length) (hk : k < c.length) : gi (add1 c j) k = if j = k then gi c k + 1 else gi c k := by
  unfold add1
  rw [gi_get _ _ (by simpa using hk), List.getElem_set]
  by_cases e : j = k
  · subst e; simp
  · rw [if_neg e, if_neg e, ← gi_get _ _ hk]
theorem acts_len (K : GC) (s : GS) (e c : List Int) : (s.acts K e c).2.length = c.length := by
  unfold GS.acts
  repeat' split
  all_goals simp [addC_len, add1_len]
  all_goals (split <;> simp [add1_len])
/-- Numbers only grow, and the PC stays. -/
structure Grows (c d : List Int) : Prop where
  len : d.length = c.length
  pc : gi d 0 = gi c 0
  up : ∀ j, j < 14 → gi c j ≤ gi d j
theorem Grows.trans {a b c : List Int} (h : Grows a b) (k : Grows b c) : Grows a c := ⟨k.len.trans h.len, k.pc.trans h.pc, fun j hj => Int.le_trans (h.up j hj) (k.up j hj)⟩
theorem grows_addC (c : List Int) (j : Nat) (m d : Int) (hl : c.length = 14) (h1 : 1 ≤ j) (h2 : j + 2 < 14) (hm : 0 ≤ m) (hd : 0 ≤ d) : Grows c (addC c j m d) := by
  refine ⟨addC_len _ _ _ _, ?_, fun k hk => ?_⟩
  · rw [addC_gi c j m d hl h2 0 (by omega), if_neg (by omega), if_neg (by omega), if_neg (by omega)]
  · rw [addC_gi c j m d hl h2 k hk]
    by_cases e1 : k = j
    · subst e1; simp; omega
    · by_cases e2 : k = j + 1
      · subst e2; simp; omega
      · by_cases e3 : k = j + 2
        · subst e3; simp; omega
        · simp [e1, e2, e3]
theorem grows_add1 (c : List Int) (j : Nat) (hl : c.length = 14) (h1 : 1 ≤ j) (h2 : j < 14) : Grows c (add1 c j) := by
  refine ⟨add1_len _ _, ?_, fun k hk => ?_⟩
  · rw [add1_gi c j 0 (by omega) (by omega), if_neg (by omega)]
  · rw [add1_gi c j k (by omega) (by omega)]
    split <;> omega
theorem grows_acts (K : GC) (s : GS) (e c : List Int) (hl : c.length = 14) : Grows c (s.acts K e c).2 := by
  have a1 : ∀ j, 1 ≤ j → j < 14 → Grows c (add1 c j) := fun j h1 h2 => grows_add1 c j hl h1 h2
  have a2 : ∀ j k, 1 ≤ j → j < 14 → 1 ≤ k → k < 14 → Grows c (add1 (add1 c j) k) := fun j k h1 h2 h3 h4 => (a1 j h1 h2).trans (grows_add1 _ k (by rw [add1_len, hl]) h3 h4)
  have a3 : ∀ j (m d : Nat), 1 ≤ j → j + 2 < 14 → Grows c (addC c j m d) := fun j m d h1 h2 => grows_addC c j m d hl h1 h2 (by omega) (by omega)
  unfold GS.acts
  split
  · exact a3 _ _ _ (by omega) (by omega)
  · split
    · exact a3 _ _ _ (by omega) (by omega)
    · split
      · exact a3 _ _ _ (by omega) (by omega)
      · split
        · exact (a3 4 _ _ (by omega) (by omega)).trans (grows_add1 _ 7 (by rw [addC_len, hl]) (by omega) (by omega))
        · split
          · show Grows c (if _ then _ else _)
            split
            · exact a1 _ (by omega) (by omega)
            · exact a2 _ _ (by omega) (by omega) (by omega) (by omega)
          · show Grows c (if _ then _ else _)
            split
            · exact a1 _ (by omega) (by omega)
            · exact a2 _ _ (by omega) (by omega) (by omega) (by omega)
/-- A list of numbers as a valid simulation has it. -/
structure NOk (N : List (List Int)) : Prop where
  sorted : sortedN N
  len : ∀ c ∈ N, c.length = 14
  num : ∀ c ∈ N, ∀ j, 1 ≤ j → j < 14 → 0 ≤ gi c j ∧ gi c j ≤ 1099511627776
theorem zeros_gi (pc : Int) (j : Nat) (h1 : 1 ≤ j) (hj : j < 14) : gi (pc :: List.replicate 13 0) j = 0 := by
  obtain ⟨k, rfl⟩ : ∃ k, j = k + 1 := ⟨j - 1, by omega⟩
  exact (show ∀ k, k < 13 → (List.replicate 13 (0 : Int)).getD k 0 = 0 by decide) k (by omega)
theorem NOk.row {N : List (List Int)} (h : NOk N) (pc : Int) : NOk (rowN N pc) := by
  have hmem : ∀ c ∈ rowN N pc, c ∈ N ∨ c = pc :: List.replicate 13 0 := fun c hc => by
    unfold rowN at hc
    split at hc
    · exact .inl hc
    · rcases List.mem_append.1 hc with h1 | h1
      · exact .inl (List.mem_of_mem_take h1)
      · rcases List.mem_cons.1 h1 with h2 | h2
        · exact .inr h2
        · exact .inl (List.mem_of_mem_drop h2)
  refine ⟨sortedN_row h.sorted, fun c hc => ?_, fun c hc j h1 hj => ?_⟩
  · rcases hmem c hc with h2 | h2
    · exact h.len c h2
    · rw [h2]; simp
  · rcases hmem c hc with h2 | h2
    · exact h.num c h2 j h1 hj
    · rw [h2, zeros_gi pc j h1 hj]; omega
theorem NOk.set {N : List (List Int)} (h : NOk N) (i : Nat) (hi : i < N.length) (d : List Int) (hd : Grows (gn N i) d) (ho : (cntX d).any overN = false) : NOk (N.set i d) := by
  have hg : gn N i = N[i] := by simp [gn, List.getD_eq_getElem?_getD, hi]
  have hgi : ∀ k, gn (N.set i d) k = if i = k then d else gn N k := fun k => by
    by_cases e : i = k
    · subst e; simp [gn, List.getD_eq_getElem?_getD, hi]
    · simp [gn, List.getD_eq_getElem?_getD, List.getElem?_set, e]
  refine ⟨fun a b hab hb => ?_, fun c hc => ?_, fun c hc j h1 hj => ?_⟩
  · rw [List.length_set] at hb
    rw [hgi, hgi]
    have h0 := h.sorted a b hab hb
    by_cases e1 : i = a
    · subst e1
      rw [if_pos rfl, if_neg (by omega), hd.pc]; exact h0
    · rw [if_neg e1]
      by_cases e2 : i = b
      · subst e2; rw [if_pos rfl, hd.pc]; exact h0
      · rw [if_neg e2]; exact h0
  · rcases List.mem_or_eq_of_mem_set hc with h2 | h2
    · exact h.len c h2
    · rw [h2, hd.len, hg]; exact h.len _ (List.getElem_mem hi)
  · rcases List.mem_or_eq_of_mem_set hc with h2 | h2
    · exact h.num c h2 j h1 hj
    · rw [h2]
      have h3 := h.num _ (List.getElem_mem hi) j h1 hj
      have h4 := hd.up j hj
      rw [hg] at h4
      refine ⟨by omega, ?_⟩
      rw [List.any_eq_false] at ho
      have h5 := ho (gi d j) (by
        unfold cntX
        exact List.mem_map.2 ⟨j - 1, by simp; omega, by rw [show j - 1 + 1 = j by omega]⟩)
      simp [overN] at h5
      omega
/-- What an event leaves of the numbers. -/
theorem NOk.ev {K : GC} {s s' : GS} {e : List Int} (h : NOk s.N) (he : s.ev K e = some s') : NOk s'.N := by
  have hc : (s.called K e).N = s.N := by unfold GS.called; split <;> rfl
  unfold GS.ev at he
  split at he
  · rw [hc] at he
    have h1 := h.row (gi e 2)
    obtain ⟨h2, _⟩ := rowN_at (pc := gi e 2) h.sorted
    have hl : (gn (rowN s.N (gi e 2)) (posN s.N (gi e 2))).length = 14 := by
      have : gn (rowN s.N (gi e 2)) (posN s.N (gi e 2)) = (rowN s.N (gi e 2))[posN s.N (gi e 2)] := by simp [gn, List.getD_eq_getElem?_getD, h2]
      rw [this]
      exact h1.len _ (List.getElem_mem h2)
    dsimp only at he
    split at he
    · cases he
    · rename_i ho
      cases he
      exact h1.set _ h2 _ (grows_acts K _ e _ hl) (by simpa using ho)
  · cases he
    rw [hc]
    exact h
end Go.Proofs.Ytdkacdfhapgboaa

/- sim.Feed in full: the predictor stays valid. No program in sight. -/
set_option linter.unusedVariables false
set_option linter.unusedSimpArgs false
namespace Go.Proofs.Ytdkacdfhapgboaa

theorem any_bad {cs : List Int} : cs.any badN = false ↔ ∀ x ∈ cs, 0 ≤ x ∧ x ≤ 3 := by
  rw [List.any_eq_false]
  refine ⟨fun h x hx => ?_, fun h x hx => ?_⟩
  · have := h x hx
    simp [badN] at this
    omega
  · have := h x hx
    simp [badN]
    omega
theorem predOk_ret {t h r hist : Int} {cs rs : List Int} (hq : predOk t h r cs hist rs) : predOk t h r cs hist rs.dropLast :=
  ⟨hq.1, hq.2.1, hq.2.2.1, hq.2.2.2.1, by have := hq.2.2.2.2; rw [List.length_dropLast]; omega⟩
theorem predOk_call {t h r hist : Int} {cs rs : List Int} (a : Int) (hq : predOk t h r cs hist rs) : predOk t h r cs hist (callL r rs a) := by
  refine ⟨hq.1, hq.2.1, hq.2.2.1, hq.2.2.2.1, ?_⟩
  have h1 := hq.2.2.2.2
  unfold callL
  cases hd : decide (r < ((rs ++ [a]).length : Int))
  · have := of_decide_eq_false hd
    simp at this ⊢
    omega
  · simp
    omega
theorem predOk_set {t h r hist : Int} {cs rs : List Int} (hq : predOk t h r cs hist rs) (i : Nat) (hi : i < cs.length) (b : Bool) (hist' : Int) (hh : hist' < 2 ^ h.toNat) : predOk t h r (cs.set i (trainC (gi cs i) b)) hist' rs := by
  have h1 := any_bad.1 hq.2.2.1
  refine ⟨hq.1, by rw [List.length_set]; exact hq.2.1, any_bad.2 fun x hx => ?_, hh, hq.2.2.2.2⟩
  rcases List.mem_or_eq_of_mem_set hx with h2 | h2
  · exact h1 x h2
  · rw [h2]
    have h3 := h1 _ (List.getElem_mem hi)
    rw [gi_get cs i hi]
    cases b <;> simp only [trainC] <;> omega
section
open Go.RowKit
theorem pow_wrapG (t : Nat) (ht : t ≤ 12) : ∃ n : Nat, 2 ^ t = n ∧ 1 ≤ n ∧ n ≤ 4096 ∧ IntKind.i64.wrap ((2 : Int) ^ t) = (n : Int) ∧ IntKind.u32.wrap ((2 : Int) ^ t) = (n : Int) ∧ (2 : Int) ^ t = (n : Int) := by
  obtain ⟨m, hm⟩ : ∃ m : Nat, 2 ^ t = m := ⟨_, rfl⟩
  have h4 : m ≤ 4096 := by rw [← hm]; have := Nat.pow_le_pow_right (show 0 < 2 by omega) ht; simpa using this
  have h1 : 1 ≤ m := by rw [← hm]; exact Nat.one_le_two_pow
  have e : (2 : Int) ^ t = (m : Int) := by rw [← hm]; simp
  exact ⟨m, hm, h1, h4, by rw [e]; exact IntWalk.i64_in _ (by omega), by rw [e]; exact IntWalk.u32_in _ (by omega), e⟩

theorem bits_or1G (a : Nat) (h : a < 4096) : bits .or .u32 ((2 * a : Nat) : Int) 1 = ((2 * a + 1 : Nat) : Int) := by
  have h2 : (BitVec.ofInt 32 ((2 * a : Nat) : Int)).toNat = 2 * a := by
    rw [BitVec.ofInt_natCast, BitVec.toNat_ofNat]; exact Nat.mod_eq_of_lt (by omega)
  have h3 : (BitVec.ofInt 32 (1 : Int)).toNat = 1 := by decide
  have h4 : 2 * a ||| 1 = 2 * a + 1 := by
    have := Nat.two_pow_add_eq_or_of_lt (i := 1) (b := 1) (by decide) a
    simpa using this.symm
  show IntKind.u32.wrap ((BitVec.ofInt 32 ((2 * a : Nat) : Int) ||| BitVec.ofInt 32 (1 : Int)).toNat : Int) = _
  rw [BitVec.toNat_or, h2, h3, h4, IntKind.wrap_u32]
  omega
theorem hist_eqG (h : Nat) (hist : Int) (taken : Bool) (hh : 0 ≤ hist ∧ hist < 2 ^ h) (h12 : h ≤ 12) :
    IntKind.u32.wrap (IntKind.u32.wrap (2 * hist) + (if taken then 1 else 0)) % (2 : Int) ^ h = trainH h hist taken := by
  obtain ⟨m, hm, m1, m2, _, _, hm2⟩ := pow_wrapG h h12
  rw [hm2] at hh ⊢
  have hw : IntKind.u32.wrap (2 * hist) = 2 * hist := IntWalk.u32_in _ (by omega)
  have hw' : IntKind.u32.wrap (hist * 2) = 2 * hist := by rw [show hist * 2 = 2 * hist by omega]; exact hw
  unfold trainH
  simp only [Int.toNat_natCast, hm2, hw, hw']
  cases taken
  · simp only [Bool.false_eq_true, if_false, Int.add_zero]
    rw [hw]
  · simp only [if_true]
    rw [IntWalk.u32_in (2 * hist + 1) (by omega)]
    rcases Nat.lt_or_ge m 2 with h1 | h1
    · obtain rfl : m = 1 := by omega
      simp only [Int.natCast_one, Int.emod_one]
      decide
    · have hh1 : h ≠ 0 := fun e => by subst e; simp at hm; omega
      have hk0 : ∃ k : Nat, m = 2 * k := by
        obtain ⟨g, rfl⟩ : ∃ g, h = g + 1 := ⟨h - 1, by omega⟩
        exact ⟨2 ^ g, by rw [← hm, Nat.pow_succ, Nat.mul_comm]⟩
      obtain ⟨k, hk⟩ := hk0
      obtain ⟨x, rfl⟩ := Int.eq_ofNat_of_zero_le hh.1
      have e1 : (1 : Int) % (m : Int) = 1 := Int.emod_eq_of_lt (by omega) (by omega)
      have e2 : (2 * (x : Int)) % (m : Int) = ((2 * (x % k) : Nat) : Int) := by
        rw [hk]
        have : ((2 * x) % (2 * k) : Nat) = 2 * (x % k) := Nat.mul_mod_mul_left 2 x k
        rw [← this]
        simp
      have hkx : x % k < 4096 := by
        have : x % k < k := Nat.mod_lt _ (by omega)
        omega
      rw [e1, e2, bits_or1G _ hkx]
      have e3 : ((2 * x + 1) % (2 * k) : Nat) = 2 * (x % k) + 1 := by
        have h5 := Nat.mod_add_div x k
        have h6 : x % k < k := Nat.mod_lt _ (by omega)
        have h7 : 2 * x + 1 = (2 * (x % k) + 1) + 2 * k * (x / k) := by
          rw [Nat.mul_assoc]; omega
        rw [h7, Nat.add_mul_mod_self_left, Nat.mod_eq_of_lt (by omega)]
      rw [hk, ← e3]
      simp

end
theorem trainH_lt (h : Nat) (hist : Int) (b : Bool) (hh : 0 ≤ hist ∧ hist < 2 ^ h) (h12 : h ≤ 12) : 0 ≤ trainH h hist b ∧ trainH h hist b < 2 ^ h := by
  rw [← hist_eqG h hist b hh h12]
  have hp : (0 : Int) < (2 : Int) ^ h := Int.pow_pos (by decide)
  exact ⟨Int.emod_nonneg _ (by omega), Int.emod_lt_of_pos _ hp⟩
end Go.Proofs.Ytdkacdfhapgboaa

/- sim.Feed in full: a simulation stays valid, event by event. No program in sight. -/
set_option linter.unusedVariables false
set_option linter.unusedSimpArgs false
namespace Go.Proofs.Ytdkacdfhapgboaa

/-- An event as it comes in: words in their range. -/
structure EvU (e : List Int) : Prop where
  pc : 0 ≤ gi e 2 ∧ gi e 2 < 4294967296
  a : 0 ≤ gi e 3 ∧ gi e 3 < 4294967296
  b : 0 ≤ gi e 4 ∧ gi e 4 < 4294967296
/-- A valid simulation. -/
structure GOk (K : GC) (t : Int) (nI nD nL : Nat) (s : GS) : Prop where
  i : cacheOk K.il nI K.iw s.I
  d : cacheOk K.dl nD K.dw s.D
  l : cacheOk K.ll nL K.lw s.L
  n : NOk s.N
  p : predOk t K.h K.ret s.cs s.hist s.rs
  hist : 0 ≤ s.hist
theorem cacheOk_far {line ll lw : Int} {n : Nat} : ∀ (xs : List Int) (L : List (List Int)), cacheOk ll n lw L → cacheOk ll n lw (farL line ll n lw L xs).1
  | [], L, h => h
  | x :: xs, L, h => by
    obtain ⟨l1, l2, _⟩ := shapeB_line h.1
    exact cacheOk_far xs _ (cacheOk_run _ h fun y hy => (linI_lt ll _ _ (by omega) (by omega) y hy).2)
theorem cacheOk_acc {line ways : Int} {n : Nat} {L : List (List Int)} (at_ cnt : Int) (h : cacheOk line n ways L) : cacheOk line n ways (runL n ways L (linI line at_ cnt)).1 := by
  obtain ⟨l1, l2, _⟩ := shapeB_line h.1
  exact cacheOk_run _ h fun y hy => (linI_lt line _ _ (by omega) (by omega) y hy).2
theorem GOk.called {K : GC} {t : Int} {nI nD nL : Nat} {s : GS} (h : GOk K t nI nD nL s) (e : List Int) : GOk K t nI nD nL (s.called K e) := by
  unfold GS.called
  split
  · exact ⟨h.i, h.d, h.l, h.n, predOk_call _ h.p, h.hist⟩
  · exact h
/-- The caches and the predictor behind a handler. -/
theorem GOk.acts {K : GC} {t : Int} {nI nD nL : Nat} {s : GS} (h : GOk K t nI nD nL s) (e c : List Int) :
    cacheOk K.il nI K.iw (s.acts K e c).1.I ∧ cacheOk K.dl nD K.dw (s.acts K e c).1.D ∧ cacheOk K.ll nL K.lw (s.acts K e c).1.L ∧ predOk t K.h K.ret (s.acts K e c).1.cs (s.acts K e c).1.hist (s.acts K e c).1.rs ∧ 0 ≤ (s.acts K e c).1.hist := by
  have eI : s.I.length = nI := by have := h.i.2.1; omega
  have eD : s.D.length = nD := by have := h.d.2.1; omega
  have eL : s.L.length = nL := by have := h.l.2.1; omega
  unfold GS.acts
  rw [eD, eL, eI]
  split
  · exact ⟨cacheOk_acc _ _ h.i, h.d, cacheOk_far _ _ h.l, h.p, h.hist⟩
  · split
    · exact ⟨h.i, cacheOk_acc _ _ h.d, cacheOk_far _ _ h.l, h.p, h.hist⟩
    · split
      · exact ⟨h.i, cacheOk_acc _ _ h.d, cacheOk_far _ _ h.l, h.p, h.hist⟩
      · split
        · exact ⟨h.i, cacheOk_acc _ _ h.d, cacheOk_far _ _ h.l, h.p, h.hist⟩
        · split
          · have h1 := (predOk_len h.p).1
            obtain ⟨c1, c2⟩ := ctrI_range (gi e 2) s.hist s.cs.length h1
            have h12 : K.h ≤ 12 := by
              have := h.p.1
              simp [predShapeB] at this
              omega
            have hh : s.hist < 2 ^ K.h := by have := h.p.2.2.2.1; simpa using this
            have ht := trainH_lt K.h s.hist (gi e 4 == 1) ⟨h.hist, hh⟩ h12
            exact ⟨h.i, h.d, h.l, predOk_set h.p _ (by omega) _ _ (by simpa using ht.2), ht.1⟩
          · exact ⟨h.i, h.d, h.l, predOk_ret h.p, h.hist⟩
theorem GOk.ev {K : GC} {t : Int} {nI nD nL : Nat} {s s' : GS} {e : List Int} (h : GOk K t nI nD nL s) (he : s.ev K e = some s') : GOk K t nI nD nL s' := by
  have hn := h.n.ev he
  have hc := h.called e
  unfold GS.ev at he
  split at he
  · dsimp only at he
    split at he
    · cases he
    · cases he
      obtain ⟨a, b, d, p, x⟩ := hc.acts e (gn (rowN (s.called K e).N (gi e 2)) (posN (s.called K e).N (gi e 2)))
      exact ⟨a, b, d, hn, p, x⟩
  · cases he
    exact hc
theorem GOk.feed {K : GC} {t : Int} {nI nD nL : Nat} : ∀ (es : List (List Int)) {s s' : GS}, GOk K t nI nD nL s → s.feed K es = some s' → GOk K t nI nD nL s'
  | [], s, s', h, he => by
    unfold GS.feed at he
    cases he
    exact h
  | e :: es, s, s', h, he => by
    unfold GS.feed at he
    rw [List.foldlM_cons] at he
    cases h1 : s.ev K e with
    | none => rw [h1] at he; cases he
    | some s1 =>
      rw [h1] at he
      exact GOk.feed es (h.ev h1) he
theorem rowN_len {N : List (List Int)} {pc : Int} (hs : sortedN N) : N.length ≤ (rowN N pc).length ∧ (rowN N pc).length ≤ N.length + 1 := by
  have hi := (find_pos (pc := pc) hs).le.2
  unfold rowN
  split
  · omega
  · simp; omega
theorem GS.ev_len {K : GC} {s s' : GS} {e : List Int} (h : sortedN s.N) (he : s.ev K e = some s') : s'.N.length ≤ s.N.length + 1 := by
  have hc : (s.called K e).N = s.N := by unfold GS.called; split <;> rfl
  have hr := rowN_len (pc := gi e 2) h
  unfold GS.ev at he
  split at he
  · rw [hc] at he
    dsimp only at he
    split at he
    · cases he
    · cases he
      simp only [List.length_set]
      exact hr.2
  · cases he
    rw [hc]
    omega
/-- The beginning of a feed that ends well ends well. -/
theorem GS.feed_take (K : GC) (s : GS) (es : List (List Int)) (k : Nat) (hk : k < es.length) : s.feed K (es.take (k + 1)) = (s.feed K (es.take k)).bind fun x => x.ev K (gn es k) := by
  have e : gn es k = es[k] := by simp [gn, List.getD_eq_getElem?_getD, hk]
  rw [List.take_succ_eq_append_getElem hk, GS.feed_snoc, e]
theorem GS.feed_stop {K : GC} {s : GS} {es : List (List Int)} {k : Nat} (hk : k ≤ es.length) (h : s.feed K (es.take k) = none) : s.feed K es = none := by
  rw [← List.take_append_drop k es, GS.feed_append, h]
  rfl
end Go.Proofs.Ytdkacdfhapgboaa

/- Arguments as they come in: a list of events. -/
set_option linter.unusedVariables false
set_option linter.unusedSimpArgs false
namespace Go.Proofs.Ytdkacdfhapgboaa
open Go.RowKit Go.ChangeShapes Go.WideShapes Go.Deep

section
variable {H : Type} {enc : TypeId × Value → H} {P : Program} {w : World} {base : Nat} {spare : Nat → Bool} {held : Bool}
theorem open_slice_fields {t e : TypeId} {fs : Array Field} {fuel : Nat} {cs : List Value} {x : DataW H × List MemPlace} (ht : P.underlying t = some (.slice e)) (he : P.underlying e = some (.struct fs))
    (hone : oneCellFields P fs = true) (hC : P.cellsOf e = fs.size) (h : DataW.trod enc P w base spare held fuel t cs = some x) :
    (cs = [.slice none 0 0]) ∨
    ∃ (a : Addr) (len cap m : Nat), cs = [.slice (some a) len cap] ∧ len ≤ cap ∧ cap ≤ maxLen ∧ len ≤ m ∧
      ∀ i, i < m → ∀ (j : Nat) (f : Field), fs[j]? = some f → ∃ (v : Value) (n : Nat) (y : DataW H × List MemPlace), w.cell? (a.add (i * fs.size + j)) = some v ∧ DataW.trod enc P w base spare held n f.type [v] = some y := by
  rcases open_slice ht h with h0 | ⟨a, len, cap, m, n, D, Pl, hcs, hb, hl, hm, hmm, hx, hi⟩
  · exact .inl h0.1
  · refine .inr ⟨a, len, cap, m, hcs, hl, hm, by rw [hmm]; split <;> omega, fun i him j f hj => ?_⟩
    obtain ⟨cs', hc, ht'⟩ := hi i him
    rw [hC] at hc
    obtain ⟨ys, n', hn', hy, hlen, hyl, hf⟩ := DataW.trod_struct he ht'
    obtain ⟨_, hcl, hat⟩ := World.cells?_some hc
    obtain ⟨ho, hk⟩ := hone_of hone j f hj
    have hjl : j < fs.size := (Array.getElem?_eq_some_iff.1 hj).1
    have hcell := hat j hjl
    have hv : cs'[j]? = some (cs'[j]'(by omega)) := List.getElem?_eq_getElem (by omega)
    have h1 := hf j f hj
    rw [ho, hk] at h1
    have hone' : (cs'.drop j).take 1 = [cs'[j]'(by omega)] := by
      rw [List.drop_eq_getElem_cons (by omega)]
      rfl
    rw [hone'] at h1
    have hys : ys[j]? = some (ys[j]'(by omega)) := List.getElem?_eq_getElem (by omega)
    refine ⟨_, _, _, ?_, h1.trans hys⟩
    rw [← Go.Deep.add_add, hcell, hv]
end
theorem pick_list {Q : Nat → List Int → Prop} : ∀ n : Nat, (∀ i, i < n → ∃ e, Q i e) → ∃ es : List (List Int), es.length = n ∧ ∀ i, i < n → Q i (gn es i)
  | 0, _ => ⟨[], rfl, fun i hi => absurd hi (Nat.not_lt_zero _)⟩
  | n + 1, h => by
    obtain ⟨es, hl, he⟩ := pick_list n fun i hi => h i (by omega)
    obtain ⟨e, hq⟩ := h n (by omega)
    refine ⟨es ++ [e], by simp [hl], fun i hi => ?_⟩
    by_cases h1 : i < n
    · have : gn (es ++ [e]) i = gn es i := by simp [gn, List.getD_eq_getElem?_getD, List.getElem?_append, hl, h1]
      rw [this]
      exact he i h1
    · obtain rfl : i = n := by omega
      have : gn (es ++ [e]) i = e := by simp [gn, List.getD_eq_getElem?_getD, List.getElem?_append, hl]
      rw [this]
      exact hq
section
variable {H : Type} {enc : TypeId × Value → H} {W : World} {base : Nat} {held : Bool}
set_option maxRecDepth 100000 in
theorem open_events {sp : Nat → Bool} {r : Reach} {b0 : Nat} {v : Value} {d : DataW H} {p : List MemPlace} (hv : Value.okWide Try.prog W r b0 68 v) (h : DataW.Trod enc Try.prog W base sp held 68 v d p) :
    ∃ (A : Option Addr) (c : Nat) (es : List (List Int)), v = .slice A es.length c ∧ RdE W A es ∧ (A = none → c = 0) ∧ es.length ≤ c ∧ ∀ k, k < es.length → EvU (gn es k) := by
  obtain ⟨a0, len0, cap0, rfl⟩ := okWide_slice Try.underlying68 hv
  obtain ⟨fuel, hf⟩ := h
  rcases open_slice_fields Try.underlying68 Try.underlying71 (by kernel_rfl) (by kernel_rfl) hf with hcs | ⟨a, len, cap, m, hcs, hl, hm, hlm, hx⟩
  · have hcs' : Value.slice a0 len0 cap0 = .slice none 0 0 := List.singleton_inj.1 hcs
    cases hcs'
    exact ⟨none, 0, [], rfl, ⟨by simp, fun k hk => absurd hk (Nat.not_lt_zero _)⟩, fun _ => rfl, Nat.le_refl _, fun k hk => absurd hk (Nat.not_lt_zero _)⟩
  · have hcs' : Value.slice a0 len0 cap0 = .slice (some a) len cap := List.singleton_inj.1 hcs
    cases hcs'
    have hmx : maxLen = 9223372036854775807 := rfl
    obtain ⟨es, hel, hes⟩ := pick_list (Q := fun i e => (∀ j, j < 6 → W.cell? (a.add (i * 6 + j)) = some (evV e j)) ∧ EvU e) len0 fun i hi => by
      obtain ⟨v0, n0, y0, c0, t0⟩ := hx i (by omega) 0 _ rfl
      obtain ⟨v1, n1, y1, c1, t1⟩ := hx i (by omega) 1 _ rfl
      obtain ⟨v2, n2, y2, c2, t2⟩ := hx i (by omega) 2 _ rfl
      obtain ⟨v3, n3, y3, c3, t3⟩ := hx i (by omega) 3 _ rfl
      obtain ⟨v4, n4, y4, c4, t4⟩ := hx i (by omega) 4 _ rfl
      obtain ⟨v5, n5, y5, c5, t5⟩ := hx i (by omega) 5 _ rfl
      obtain ⟨x0, e0, _, u0⟩ := DataW.trod_int Try.underlying3 t0
      obtain ⟨x1, e1, _, u1⟩ := DataW.trod_int Try.underlying3 t1
      obtain ⟨x2, e2, _, u2⟩ := DataW.trod_int Try.underlying30 t2
      obtain ⟨x3, e3, _, u3⟩ := DataW.trod_int Try.underlying30 t3
      obtain ⟨x4, e4, _, u4⟩ := DataW.trod_int Try.underlying30 t4
      obtain ⟨x5, e5, _, u5⟩ := DataW.trod_int Try.underlying3 t5
      obtain rfl : v0 = _ := List.singleton_inj.1 e0
      obtain rfl : v1 = _ := List.singleton_inj.1 e1
      obtain rfl : v2 = _ := List.singleton_inj.1 e2
      obtain rfl : v3 = _ := List.singleton_inj.1 e3
      obtain rfl : v4 = _ := List.singleton_inj.1 e4
      obtain rfl : v5 = _ := List.singleton_inj.1 e5
      refine ⟨[x0, x1, x2, x3, x4, x5], fun j hj => ?_, ⟨wf_u32 u2, wf_u32 u3, wf_u32 u4⟩⟩
      match j, hj with
      | 0, _ => exact c0
      | 1, _ => exact c1
      | 2, _ => exact c2
      | 3, _ => exact c3
      | 4, _ => exact c4
      | 5, _ => exact c5
    subst hel
    exact ⟨some a, cap0, es, rfl, ⟨by omega, fun k hk j hj => ⟨a, rfl, (hes k hk).1 j hj⟩⟩, fun h => (by cases h), hl, fun k hk => (hes k hk).2⟩
end
end Go.Proofs.Ytdkacdfhapgboaa

/- Arguments as they come in: a simulation. (printed by gen/opensim.py) -/
set_option linter.unusedVariables false
set_option linter.unusedSimpArgs false
namespace Go.Proofs.Ytdkacdfhapgboaa
open Go.RowKit Go.ChangeShapes Go.WideShapes

section
variable {H : Type} {enc : TypeId × Value → H} {W : World} {base : Nat} {held : Bool}
theorem someS {α : Type} {l : List α} {i : Nat} (h : i < l.length) : ∃ y, l[i]? = some y := ⟨l[i], List.getElem?_eq_getElem h⟩
theorem fldS {P : Program} {sp : Nat → Bool} {n : Nat} {ty : TypeId} {off m : Nat} {cells l : List Value} {x : DataW H × List MemPlace} (q : DataW.trod enc P W base sp held n ty ((cells.drop off).take (P.cellsOf ty)) = some x) (hk : P.cellsOf ty = m) (hl : (cells.drop off).take m = l) : DataW.trod enc P W base sp held n ty l = some x := by
  rw [hk, hl] at q
  exact q
/-- A cell that reads as a slice of numbers. -/
theorem slice_rdS {P : Program} {sp : Nat → Bool} {t e : TypeId} {k : IntKind} {fuel : Nat} {v : Value} {x : DataW H × List MemPlace} (ht : P.underlying t = some (.slice e)) (he : P.underlying e = some (.int k)) (hc : P.cellsOf e = 1)
    (hf : DataW.trod enc P W base sp held fuel t [v] = some x) : ∃ A c xs, v = .slice A xs.length c ∧ RdI W k A xs.length xs ∧ (A = none → c = 0) ∧ xs.length ≤ c ∧ ∀ n ∈ xs, (Lit.int k n).wf = true := by
  rcases open_ints ht he hc hf with ⟨hcs, _⟩ | ⟨x, l, c, zs, hcs, _, hl, hm, hz, _, hcell, hwz⟩
  · obtain rfl : v = .slice none 0 0 := by simpa using hcs
    exact ⟨none, 0, [], rfl, ⟨by simp, by simp, fun j hj => absurd hj (by simp)⟩, fun _ => rfl, Nat.le_refl _, fun n hn => absurd hn (by simp)⟩
  · obtain rfl : v = .slice (some x) l c := by simpa using hcs
    have hzl : l ≤ zs.length := by split at hz <;> omega
    have hle : l ≤ 9223372036854775807 := by unfold maxLen at hm; omega
    have hlt : (zs.take l).length = l := by rw [List.length_take]; omega
    refine ⟨some x, c, zs.take l, by rw [hlt], ⟨by simp [hlt], by omega, fun j hj => ⟨x, rfl, ?_⟩⟩, (fun h => by cases h), by omega, fun n hn => hwz n (List.mem_of_mem_take hn)⟩
    have hj' : j < l := by simpa [hlt] using hj
    rw [hcell j (by omega)]
    simp [nums, List.getD_eq_getElem?_getD, List.getElem?_eq_getElem (show j < zs.length by omega)]
/-- A cell that reads as a slice of slices of numbers. -/
theorem rows_rdS {P : Program} {t e q : TypeId} {fuel : Nat} {v : Value} {x : DataW H × List MemPlace} (ht : P.underlying t = some (.slice e)) (he : P.underlying e = some (.slice q)) (hq : P.underlying q = some (.int .u32)) (ce : P.cellsOf e = 1) (cq : P.cellsOf q = 1)
    (hf : DataW.trod enc P W base (fun _ => true) held fuel t [v] = some x) : ∃ A c vs L, v = .slice A L.length c ∧ RdSets W A vs L ∧ (A = none → c = 0) := by
  rcases Deep.open_int_rows ht he hq ce cq hf with ⟨hcs, _⟩ | ⟨a, len, cap, A, M, C, Z, hcs, _, hl, hm, _, hx⟩
  · obtain rfl : v = .slice none 0 0 := by simpa using hcs
    exact ⟨none, 0, [], [], rfl, ⟨⟨by simp, by simp, fun j hj => absurd hj (by simp)⟩, fun i hi => absurd hi (by simp)⟩, fun _ => rfl⟩
  · obtain rfl : v = .slice (some a) len cap := by simpa using hcs
    have hmx : maxLen = 9223372036854775807 := rfl
    refine ⟨some a, cap, (List.range len).map fun r => .slice (A r) (M r) (C r), (List.range len).map fun r => (Z r).take (M r), by simp, ⟨⟨by simp, by simp; omega, fun j hj => ⟨a, rfl, ?_⟩⟩, fun i hi => ?_⟩, (fun h => by cases h)⟩
    · have hj' : j < len := by simpa using hj
      rw [(hx j (by omega)).1]
      simp
    · have hi' : i < len := by simpa using hi
      obtain ⟨_, h1, h2, h3, h4, h5, h6⟩ := hx i (by omega)
      have e1 : gv ((List.range len).map fun r => Value.slice (A r) (M r) (C r)) i = .slice (A i) (M i) (C i) := by simp [gv, List.getD_eq_getElem?_getD, hi']
      have e2 : gl ((List.range len).map fun r => (Z r).take (M r)) i = (Z i).take (M i) := by simp [gl, List.getD_eq_getElem?_getD, hi']
      rw [e1, e2]
      have hle : ((Z i).take (M i)).length = M i := by rw [List.length_take]; omega
      refine ⟨⟨A i, C i, by rw [hle], h5, by omega, ⟨by simp, by omega, fun j hj => ?_⟩⟩, fun n hn => wf_u32 (h4 n (List.mem_of_mem_take hn))⟩
      have hj' : j < M i := by simp at hj; omega
      cases hA : A i with
      | none => have := h5 hA; omega
      | some a' =>
        refine ⟨a', rfl, ?_⟩
        rw [(h6 a' hA).2 j (by omega)]
        simp [nums, List.getD_eq_getElem?_getD, List.getElem?_eq_getElem (show j < (Z i).length by omega)]
/-- A cell that reads as a list of counts. -/
theorem counts_rd {sp : Nat → Bool} {n : Nat} {v : Value} {x : DataW H × List MemPlace} (hf : DataW.trod enc Try.prog W base sp held n 65 [v] = some x) : ∃ A c ns, v = .slice A ns.length c ∧ RdN W A ns ∧ (A = none → c = 0) ∧ ∀ c ∈ ns, c.length = 14 := by
  rcases open_slice_fields Try.underlying65 Try.underlying79 (by kernel_rfl) (by kernel_rfl) hf with hcs | ⟨a, len, cap, m, hcs, hl, hm, hlm, hx⟩
  · obtain rfl := List.singleton_inj.1 hcs
    exact ⟨none, 0, [], rfl, ⟨by simp, fun k hk => absurd hk (Nat.not_lt_zero _)⟩, fun _ => rfl, fun c hc => absurd hc (by simp)⟩
  · obtain rfl := List.singleton_inj.1 hcs
    have hmx : maxLen = 9223372036854775807 := rfl
    obtain ⟨es, hel, hes⟩ := pick_list (Q := fun i e => (∀ j, j < 14 → W.cell? (a.add (i * 14 + j)) = some (cntV e j)) ∧ e.length = 14) len fun i hi => by
      obtain ⟨v0, n0, y0, c0, t0⟩ := hx i (by omega) 0 _ rfl
      obtain ⟨v1, n1, y1, c1, t1⟩ := hx i (by omega) 1 _ rfl
      obtain ⟨v2, n2, y2, c2, t2⟩ := hx i (by omega) 2 _ rfl
      obtain ⟨v3, n3, y3, c3, t3⟩ := hx i (by omega) 3 _ rfl
      obtain ⟨v4, n4, y4, c4, t4⟩ := hx i (by omega) 4 _ rfl
      obtain ⟨v5, n5, y5, c5, t5⟩ := hx i (by omega) 5 _ rfl
      obtain ⟨v6, n6, y6, c6, t6⟩ := hx i (by omega) 6 _ rfl
      obtain ⟨v7, n7, y7, c7, t7⟩ := hx i (by omega) 7 _ rfl
      obtain ⟨v8, n8, y8, c8, t8⟩ := hx i (by omega) 8 _ rfl
      obtain ⟨v9, n9, y9, c9, t9⟩ := hx i (by omega) 9 _ rfl
      obtain ⟨v10, n10, y10, c10, t10⟩ := hx i (by omega) 10 _ rfl
      obtain ⟨v11, n11, y11, c11, t11⟩ := hx i (by omega) 11 _ rfl
      obtain ⟨v12, n12, y12, c12, t12⟩ := hx i (by omega) 12 _ rfl
      obtain ⟨v13, n13, y13, c13, t13⟩ := hx i (by omega) 13 _ rfl
      obtain ⟨x0, e0, _, _⟩ := DataW.trod_int Try.underlying30 t0
      obtain rfl : v0 = _ := List.singleton_inj.1 e0
      obtain ⟨x1, e1, _, _⟩ := DataW.trod_int Try.underlying3 t1
      obtain rfl : v1 = _ := List.singleton_inj.1 e1
      obtain ⟨x2, e2, _, _⟩ := DataW.trod_int Try.underlying3 t2
      obtain rfl : v2 = _ := List.singleton_inj.1 e2
      obtain ⟨x3, e3, _, _⟩ := DataW.trod_int Try.underlying3 t3
      obtain rfl : v3 = _ := List.singleton_inj.1 e3
      obtain ⟨x4, e4, _, _⟩ := DataW.trod_int Try.underlying3 t4
      obtain rfl : v4 = _ := List.singleton_inj.1 e4
      obtain ⟨x5, e5, _, _⟩ := DataW.trod_int Try.underlying3 t5
      obtain rfl : v5 = _ := List.singleton_inj.1 e5
      obtain ⟨x6, e6, _, _⟩ := DataW.trod_int Try.underlying3 t6
      obtain rfl : v6 = _ := List.singleton_inj.1 e6
      obtain ⟨x7, e7, _, _⟩ := DataW.trod_int Try.underlying3 t7
      obtain rfl : v7 = _ := List.singleton_inj.1 e7
      obtain ⟨x8, e8, _, _⟩ := DataW.trod_int Try.underlying3 t8
      obtain rfl : v8 = _ := List.singleton_inj.1 e8
      obtain ⟨x9, e9, _, _⟩ := DataW.trod_int Try.underlying3 t9
      obtain rfl : v9 = _ := List.singleton_inj.1 e9
      obtain ⟨x10, e10, _, _⟩ := DataW.trod_int Try.underlying3 t10
      obtain rfl : v10 = _ := List.singleton_inj.1 e10
      obtain ⟨x11, e11, _, _⟩ := DataW.trod_int Try.underlying3 t11
      obtain rfl : v11 = _ := List.singleton_inj.1 e11
      obtain ⟨x12, e12, _, _⟩ := DataW.trod_int Try.underlying3 t12
      obtain rfl : v12 = _ := List.singleton_inj.1 e12
      obtain ⟨x13, e13, _, _⟩ := DataW.trod_int Try.underlying3 t13
      obtain rfl : v13 = _ := List.singleton_inj.1 e13
      refine ⟨[x0, x1, x2, x3, x4, x5, x6, x7, x8, x9, x10, x11, x12, x13], fun j hj => ?_, rfl⟩
      match j, hj with
      | 0, _ => exact c0
      | 1, _ => exact c1
      | 2, _ => exact c2
      | 3, _ => exact c3
      | 4, _ => exact c4
      | 5, _ => exact c5
      | 6, _ => exact c6
      | 7, _ => exact c7
      | 8, _ => exact c8
      | 9, _ => exact c9
      | 10, _ => exact c10
      | 11, _ => exact c11
      | 12, _ => exact c12
      | 13, _ => exact c13
    subst hel
    refine ⟨some a, cap, es, rfl, ⟨by omega, fun k hk j hj => ⟨a, rfl, (hes k hk).1 j hj⟩⟩, (fun h => by cases h), fun c hc => ?_⟩
    obtain ⟨k, hk, rfl⟩ := List.getElem_of_mem hc
    have h := (hes k hk).2
    have e : gn es k = es[k] := by simp [gn, List.getD_eq_getElem?_getD, hk]
    rw [e] at h
    exact h
set_option maxRecDepth 100000 in
theorem conf_rd {n : Nat} {c0 c1 c2 : Value} {x : DataW H × List MemPlace} (hf : DataW.trod enc Try.prog W base (fun _ => true) held n 25 [c0, c1, c2] = some x) : ∃ a b c : Int, c0 = .int .i64 a ∧ c1 = .int .i64 b ∧ c2 = .int .i64 c := by
  obtain ⟨xs, n1, _, _, _, hlen, hfl⟩ := DataW.trod_struct Try.underlying25 hf
  have hlen' : xs.length = 3 := hlen
  obtain ⟨y0, ey0⟩ := someS (show 0 < xs.length by omega)
  obtain ⟨y1, ey1⟩ := someS (show 1 < xs.length by omega)
  obtain ⟨y2, ey2⟩ := someS (show 2 < xs.length by omega)
  have fA0 : DataW.trod enc Try.prog W base (fun _ => true) held n1 3 [c0] = some y0 := fldS (off := 0) (m := 1) (cells := [c0, c1, c2]) ((hfl 0 _ rfl).trans ey0) (by kernel_rfl) rfl
  have fA1 : DataW.trod enc Try.prog W base (fun _ => true) held n1 3 [c1] = some y1 := fldS (off := 1) (m := 1) (cells := [c0, c1, c2]) ((hfl 1 _ rfl).trans ey1) (by kernel_rfl) rfl
  have fA2 : DataW.trod enc Try.prog W base (fun _ => true) held n1 3 [c2] = some y2 := fldS (off := 2) (m := 1) (cells := [c0, c1, c2]) ((hfl 2 _ rfl).trans ey2) (by kernel_rfl) rfl
  obtain ⟨a, q0, _, _⟩ := DataW.trod_int Try.underlying3 fA0
  obtain ⟨b, q1, _, _⟩ := DataW.trod_int Try.underlying3 fA1
  obtain ⟨c, q2, _, _⟩ := DataW.trod_int Try.underlying3 fA2
  exact ⟨a, b, c, List.singleton_inj.1 q0, List.singleton_inj.1 q1, List.singleton_inj.1 q2⟩
set_option maxRecDepth 100000 in
theorem pconf_rd {n : Nat} {c0 c1 c2 : Value} {x : DataW H × List MemPlace} (hf : DataW.trod enc Try.prog W base (fun _ => true) held n 50 [c0, c1, c2] = some x) : ∃ a b c : Int, c0 = .int .i64 a ∧ c1 = .int .i64 b ∧ c2 = .int .i64 c := by
  obtain ⟨xs, n1, _, _, _, hlen, hfl⟩ := DataW.trod_struct Try.underlying50 hf
  have hlen' : xs.length = 3 := hlen
  obtain ⟨y0, ey0⟩ := someS (show 0 < xs.length by omega)
  obtain ⟨y1, ey1⟩ := someS (show 1 < xs.length by omega)
  obtain ⟨y2, ey2⟩ := someS (show 2 < xs.length by omega)
  have fA0 : DataW.trod enc Try.prog W base (fun _ => true) held n1 3 [c0] = some y0 := fldS (off := 0) (m := 1) (cells := [c0, c1, c2]) ((hfl 0 _ rfl).trans ey0) (by kernel_rfl) rfl
  have fA1 : DataW.trod enc Try.prog W base (fun _ => true) held n1 3 [c1] = some y1 := fldS (off := 1) (m := 1) (cells := [c0, c1, c2]) ((hfl 1 _ rfl).trans ey1) (by kernel_rfl) rfl
  have fA2 : DataW.trod enc Try.prog W base (fun _ => true) held n1 3 [c2] = some y2 := fldS (off := 2) (m := 1) (cells := [c0, c1, c2]) ((hfl 2 _ rfl).trans ey2) (by kernel_rfl) rfl
  obtain ⟨a, q0, _, _⟩ := DataW.trod_int Try.underlying3 fA0
  obtain ⟨b, q1, _, _⟩ := DataW.trod_int Try.underlying3 fA1
  obtain ⟨c, q2, _, _⟩ := DataW.trod_int Try.underlying3 fA2
  exact ⟨a, b, c, List.singleton_inj.1 q0, List.singleton_inj.1 q1, List.singleton_inj.1 q2⟩
set_option maxRecDepth 100000 in
theorem cache_rd {n : Nat} {c0 c1 c2 c3 : Value} {x : DataW H × List MemPlace} (hf : DataW.trod enc Try.prog W base (fun _ => true) held n 36 [c0, c1, c2, c3] = some x) :
    ∃ (a b c : Int) (A : Option Addr) (k : Nat) (vs : List Value) (L : List (List Int)), c0 = .int .i64 a ∧ c1 = .int .i64 b ∧ c2 = .int .i64 c ∧ c3 = .slice A L.length k ∧ RdSets W A vs L ∧ (A = none → k = 0) := by
  obtain ⟨xs, n1, _, _, _, hlen, hfl⟩ := DataW.trod_struct Try.underlying36 hf
  have hlen' : xs.length = 2 := hlen
  obtain ⟨y0, ey0⟩ := someS (show 0 < xs.length by omega)
  obtain ⟨y1, ey1⟩ := someS (show 1 < xs.length by omega)
  have fA0 : DataW.trod enc Try.prog W base (fun _ => true) held n1 25 [c0, c1, c2] = some y0 := fldS (off := 0) (m := 3) (cells := [c0, c1, c2, c3]) ((hfl 0 _ rfl).trans ey0) (by kernel_rfl) rfl
  have fA1 : DataW.trod enc Try.prog W base (fun _ => true) held n1 34 [c3] = some y1 := fldS (off := 3) (m := 1) (cells := [c0, c1, c2, c3]) ((hfl 1 _ rfl).trans ey1) (by kernel_rfl) rfl
  obtain ⟨a, b, c, h0, h1, h2⟩ := conf_rd fA0
  obtain ⟨A, k, vs, L, h3, hR, hz⟩ := rows_rdS Try.underlying34 Try.underlying22 Try.underlying30 (by kernel_rfl) (by kernel_rfl) fA1
  exact ⟨a, b, c, A, k, vs, L, h0, h1, h2, h3, hR, hz⟩
set_option maxRecDepth 100000 in
theorem pred_rd {n : Nat} {c0 c1 c2 c3 c4 c5 : Value} {x : DataW H × List MemPlace} (hf : DataW.trod enc Try.prog W base (fun _ => true) held n 52 [c0, c1, c2, c3, c4, c5] = some x) :
    ∃ (a b c : Int) (A : Option Addr) (k : Nat) (cs : List Int) (hist : Int) (R : Option Addr) (r : Nat) (rs : List Int), c0 = .int .i64 a ∧ c1 = .int .i64 b ∧ c2 = .int .i64 c ∧ c3 = .slice A cs.length k ∧ c4 = .int .u32 hist ∧ c5 = .slice R rs.length r ∧ RdP W A k cs R r rs ∧ (0 ≤ hist ∧ hist < 4294967296) := by
  obtain ⟨xs, n1, _, _, _, hlen, hfl⟩ := DataW.trod_struct Try.underlying52 hf
  have hlen' : xs.length = 4 := hlen
  obtain ⟨y0, ey0⟩ := someS (show 0 < xs.length by omega)
  obtain ⟨y1, ey1⟩ := someS (show 1 < xs.length by omega)
  obtain ⟨y2, ey2⟩ := someS (show 2 < xs.length by omega)
  obtain ⟨y3, ey3⟩ := someS (show 3 < xs.length by omega)
  have fA0 : DataW.trod enc Try.prog W base (fun _ => true) held n1 50 [c0, c1, c2] = some y0 := fldS (off := 0) (m := 3) (cells := [c0, c1, c2, c3, c4, c5]) ((hfl 0 _ rfl).trans ey0) (by kernel_rfl) rfl
  have fA1 : DataW.trod enc Try.prog W base (fun _ => true) held n1 41 [c3] = some y1 := fldS (off := 3) (m := 1) (cells := [c0, c1, c2, c3, c4, c5]) ((hfl 1 _ rfl).trans ey1) (by kernel_rfl) rfl
  have fA2 : DataW.trod enc Try.prog W base (fun _ => true) held n1 30 [c4] = some y2 := fldS (off := 4) (m := 1) (cells := [c0, c1, c2, c3, c4, c5]) ((hfl 2 _ rfl).trans ey2) (by kernel_rfl) rfl
  have fA3 : DataW.trod enc Try.prog W base (fun _ => true) held n1 22 [c5] = some y3 := fldS (off := 5) (m := 1) (cells := [c0, c1, c2, c3, c4, c5]) ((hfl 3 _ rfl).trans ey3) (by kernel_rfl) rfl
  obtain ⟨a, b, c, h0, h1, h2⟩ := pconf_rd fA0
  obtain ⟨A, k, cs, h3, a1, a2, a3, _⟩ := slice_rdS Try.underlying41 Try.underlying3 (by kernel_rfl) fA1
  obtain ⟨hist, q4, _, hw⟩ := DataW.trod_int Try.underlying30 fA2
  obtain ⟨R, r, rs, h5, b1, b2, b3, _⟩ := slice_rdS Try.underlying22 Try.underlying30 (by kernel_rfl) fA3
  exact ⟨a, b, c, A, k, cs, hist, R, r, rs, h0, h1, h2, h3, List.singleton_inj.1 q4, h5, ⟨a1, a2, a3, b1, b2, b3⟩, wf_u32 hw⟩
set_option maxRecDepth 100000 in
theorem sconf_rd {n : Nat} {c0 c1 c2 c3 c4 c5 c6 c7 c8 c9 c10 c11 : Value} {x : DataW H × List MemPlace} (hf : DataW.trod enc Try.prog W base (fun _ => true) held n 64 [c0, c1, c2, c3, c4, c5, c6, c7, c8, c9, c10, c11] = some x) :
    ∃ k0 k1 k2 k3 k4 k5 k6 k7 k8 k9 k10 k11 : Int, c0 = .int .i64 k0 ∧ c1 = .int .i64 k1 ∧ c2 = .int .i64 k2 ∧ c3 = .int .i64 k3 ∧ c4 = .int .i64 k4 ∧ c5 = .int .i64 k5 ∧ c6 = .int .i64 k6 ∧ c7 = .int .i64 k7 ∧ c8 = .int .i64 k8 ∧ c9 = .int .i64 k9 ∧ c10 = .int .i64 k10 ∧ c11 = .int .i64 k11 := by
  obtain ⟨xs, n1, _, _, _, hlen, hfl⟩ := DataW.trod_struct Try.underlying64 hf
  have hlen' : xs.length = 4 := hlen
  obtain ⟨y0, ey0⟩ := someS (show 0 < xs.length by omega)
  obtain ⟨y1, ey1⟩ := someS (show 1 < xs.length by omega)
  obtain ⟨y2, ey2⟩ := someS (show 2 < xs.length by omega)
  obtain ⟨y3, ey3⟩ := someS (show 3 < xs.length by omega)
  have fA0 : DataW.trod enc Try.prog W base (fun _ => true) held n1 25 [c0, c1, c2] = some y0 := fldS (off := 0) (m := 3) (cells := [c0, c1, c2, c3, c4, c5, c6, c7, c8, c9, c10, c11]) ((hfl 0 _ rfl).trans ey0) (by kernel_rfl) rfl
  have fA1 : DataW.trod enc Try.prog W base (fun _ => true) held n1 25 [c3, c4, c5] = some y1 := fldS (off := 3) (m := 3) (cells := [c0, c1, c2, c3, c4, c5, c6, c7, c8, c9, c10, c11]) ((hfl 1 _ rfl).trans ey1) (by kernel_rfl) rfl
  have fA2 : DataW.trod enc Try.prog W base (fun _ => true) held n1 25 [c6, c7, c8] = some y2 := fldS (off := 6) (m := 3) (cells := [c0, c1, c2, c3, c4, c5, c6, c7, c8, c9, c10, c11]) ((hfl 2 _ rfl).trans ey2) (by kernel_rfl) rfl
  have fA3 : DataW.trod enc Try.prog W base (fun _ => true) held n1 50 [c9, c10, c11] = some y3 := fldS (off := 9) (m := 3) (cells := [c0, c1, c2, c3, c4, c5, c6, c7, c8, c9, c10, c11]) ((hfl 3 _ rfl).trans ey3) (by kernel_rfl) rfl
  obtain ⟨k0, k1, k2, h0, h1, h2⟩ := conf_rd fA0
  obtain ⟨k3, k4, k5, h3, h4, h5⟩ := conf_rd fA1
  obtain ⟨k6, k7, k8, h6, h7, h8⟩ := conf_rd fA2
  obtain ⟨k9, k10, k11, h9, h10, h11⟩ := pconf_rd fA3
  exact ⟨k0, k1, k2, k3, k4, k5, k6, k7, k8, k9, k10, k11, h0, h1, h2, h3, h4, h5, h6, h7, h8, h9, h10, h11⟩
theorem array31 {α : Type} {cs : Array α} (h : cs.size = 31) : ∃ c0 c1 c2 c3 c4 c5 c6 c7 c8 c9 c10 c11 c12 c13 c14 c15 c16 c17 c18 c19 c20 c21 c22 c23 c24 c25 c26 c27 c28 c29 c30, cs = #[c0, c1, c2, c3, c4, c5, c6, c7, c8, c9, c10, c11, c12, c13, c14, c15, c16, c17, c18, c19, c20, c21, c22, c23, c24, c25, c26, c27, c28, c29, c30] := by
  obtain ⟨l⟩ := cs
  match l, h with
  | [c0, c1, c2, c3, c4, c5, c6, c7, c8, c9, c10, c11, c12, c13, c14, c15, c16, c17, c18, c19, c20, c21, c22, c23, c24, c25, c26, c27, c28, c29, c30], _ => exact ⟨c0, c1, c2, c3, c4, c5, c6, c7, c8, c9, c10, c11, c12, c13, c14, c15, c16, c17, c18, c19, c20, c21, c22, c23, c24, c25, c26, c27, c28, c29, c30, rfl⟩
set_option maxRecDepth 100000 in
set_option maxHeartbeats 1000000 in
theorem open_sim {r : Reach} {b0 : Nat} {v : Value} {d : DataW H} {p : List MemPlace} (hv : Value.okWide Try.prog W r b0 67 v) (h : DataW.Trod enc Try.prog W base (fun _ => true) held 67 v d p) :
    ∃ (k0 k1 k2 k3 k4 k5 k6 k7 k8 k9 k10 k11 i0 i1 i2 d0 d1 d2 l0 l1 l2 p0 p1 p2 : Int) (AI AD AL A R N : Option Addr) (ci cd cl ca ra nc : Nat) (vI vD vL : List Value) (LI LD LL : List (List Int)) (cs rs : List Int) (hist : Int) (ns : List (List Int)), v = .agg #[.int .i64 k0, .int .i64 k1, .int .i64 k2, .int .i64 k3, .int .i64 k4, .int .i64 k5, .int .i64 k6, .int .i64 k7, .int .i64 k8, .int .i64 k9, .int .i64 k10, .int .i64 k11, .int .i64 i0, .int .i64 i1, .int .i64 i2, .slice AI LI.length ci, .int .i64 d0, .int .i64 d1, .int .i64 d2, .slice AD LD.length cd, .int .i64 l0, .int .i64 l1, .int .i64 l2, .slice AL LL.length cl, .int .i64 p0, .int .i64 p1, .int .i64 p2, .slice A cs.length ca, .int .u32 hist, .slice R rs.length ra, .slice N ns.length nc] ∧
      RdSets W AI vI LI ∧ RdSets W AD vD LD ∧ RdSets W AL vL LL ∧ (AI = none → ci = 0) ∧ (AD = none → cd = 0) ∧ (AL = none → cl = 0) ∧ RdP W A ca cs R ra rs ∧ RdN W N ns ∧ (N = none → nc = 0) ∧ (∀ c ∈ ns, c.length = 14) ∧ (0 ≤ hist ∧ hist < 4294967296) := by
  obtain ⟨cells, rfl, hsz⟩ := okWide_struct Try.underlying67 hv
  obtain ⟨c0, c1, c2, c3, c4, c5, c6, c7, c8, c9, c10, c11, c12, c13, c14, c15, c16, c17, c18, c19, c20, c21, c22, c23, c24, c25, c26, c27, c28, c29, c30, rfl⟩ := array31 (hsz.trans (by kernel_rfl))
  obtain ⟨fuel, hf⟩ := h
  obtain ⟨xs, n, _, _, _, hlen, hfl⟩ := DataW.trod_struct Try.underlying67 hf
  have hlen' : xs.length = 6 := hlen
  obtain ⟨y0, ey0⟩ := someS (show 0 < xs.length by omega)
  obtain ⟨y1, ey1⟩ := someS (show 1 < xs.length by omega)
  obtain ⟨y2, ey2⟩ := someS (show 2 < xs.length by omega)
  obtain ⟨y3, ey3⟩ := someS (show 3 < xs.length by omega)
  obtain ⟨y4, ey4⟩ := someS (show 4 < xs.length by omega)
  obtain ⟨y5, ey5⟩ := someS (show 5 < xs.length by omega)
  have fA0 : DataW.trod enc Try.prog W base (fun _ => true) held n 64 [c0, c1, c2, c3, c4, c5, c6, c7, c8, c9, c10, c11] = some y0 := fldS (off := 0) (m := 12) (cells := [c0, c1, c2, c3, c4, c5, c6, c7, c8, c9, c10, c11, c12, c13, c14, c15, c16, c17, c18, c19, c20, c21, c22, c23, c24, c25, c26, c27, c28, c29, c30]) ((hfl 0 _ rfl).trans ey0) (by kernel_rfl) rfl
  have fA1 : DataW.trod enc Try.prog W base (fun _ => true) held n 36 [c12, c13, c14, c15] = some y1 := fldS (off := 12) (m := 4) (cells := [c0, c1, c2, c3, c4, c5, c6, c7, c8, c9, c10, c11, c12, c13, c14, c15, c16, c17, c18, c19, c20, c21, c22, c23, c24, c25, c26, c27, c28, c29, c30]) ((hfl 1 _ rfl).trans ey1) (by kernel_rfl) rfl
  have fA2 : DataW.trod enc Try.prog W base (fun _ => true) held n 36 [c16, c17, c18, c19] = some y2 := fldS (off := 16) (m := 4) (cells := [c0, c1, c2, c3, c4, c5, c6, c7, c8, c9, c10, c11, c12, c13, c14, c15, c16, c17, c18, c19, c20, c21, c22, c23, c24, c25, c26, c27, c28, c29, c30]) ((hfl 2 _ rfl).trans ey2) (by kernel_rfl) rfl
  have fA3 : DataW.trod enc Try.prog W base (fun _ => true) held n 36 [c20, c21, c22, c23] = some y3 := fldS (off := 20) (m := 4) (cells := [c0, c1, c2, c3, c4, c5, c6, c7, c8, c9, c10, c11, c12, c13, c14, c15, c16, c17, c18, c19, c20, c21, c22, c23, c24, c25, c26, c27, c28, c29, c30]) ((hfl 3 _ rfl).trans ey3) (by kernel_rfl) rfl
  have fA4 : DataW.trod enc Try.prog W base (fun _ => true) held n 52 [c24, c25, c26, c27, c28, c29] = some y4 := fldS (off := 24) (m := 6) (cells := [c0, c1, c2, c3, c4, c5, c6, c7, c8, c9, c10, c11, c12, c13, c14, c15, c16, c17, c18, c19, c20, c21, c22, c23, c24, c25, c26, c27, c28, c29, c30]) ((hfl 4 _ rfl).trans ey4) (by kernel_rfl) rfl
  have fA5 : DataW.trod enc Try.prog W base (fun _ => true) held n 65 [c30] = some y5 := fldS (off := 30) (m := 1) (cells := [c0, c1, c2, c3, c4, c5, c6, c7, c8, c9, c10, c11, c12, c13, c14, c15, c16, c17, c18, c19, c20, c21, c22, c23, c24, c25, c26, c27, c28, c29, c30]) ((hfl 5 _ rfl).trans ey5) (by kernel_rfl) rfl
  obtain ⟨k0, k1, k2, k3, k4, k5, k6, k7, k8, k9, k10, k11, rfl, rfl, rfl, rfl, rfl, rfl, rfl, rfl, rfl, rfl, rfl, rfl⟩ := sconf_rd fA0
  obtain ⟨i0, i1, i2, AI, ci, vI, LI, rfl, rfl, rfl, rfl, hI, zI⟩ := cache_rd fA1
  obtain ⟨d0, d1, d2, AD, cd, vD, LD, rfl, rfl, rfl, rfl, hD, zD⟩ := cache_rd fA2
  obtain ⟨l0, l1, l2, AL, cl, vL, LL, rfl, rfl, rfl, rfl, hL, zL⟩ := cache_rd fA3
  obtain ⟨p0, p1, p2, A, ca, cs, hist, R, ra, rs, rfl, rfl, rfl, rfl, rfl, rfl, hP, hh⟩ := pred_rd fA4
  obtain ⟨N, nc, ns, rfl, hN, zN, h14⟩ := counts_rd fA5
  exact ⟨k0, k1, k2, k3, k4, k5, k6, k7, k8, k9, k10, k11, i0, i1, i2, d0, d1, d2, l0, l1, l2, p0, p1, p2, AI, AD, AL, A, R, N, ci, cd, cl, ca, ra, nc, vI, vD, vL, LI, LD, LL, cs, rs, hist, ns, rfl, hI, hD, hL, zI, zD, zL, hP, hN, zN, h14, hh⟩
end
end Go.Proofs.Ytdkacdfhapgboaa

/- sim.Feed in full: the row of all numbers. -/
set_option linter.unusedVariables false
set_option linter.unusedSimpArgs false
namespace Go.Proofs.Ytdkacdfhapgboaa
open Go.RowKit

section
variable {α β : Type} {f : α → List β} {m : Nat}
theorem flat_len (hf : ∀ a, (f a).length = m) : ∀ l : List α, (l.flatMap f).length = l.length * m
  | [] => by simp
  | a :: l => by rw [List.flatMap_cons, List.length_append, hf, flat_len hf l, List.length_cons, Nat.add_mul]; omega
theorem flat_drop (hf : ∀ a, (f a).length = m) : ∀ (l : List α) (i : Nat), (l.drop i).flatMap f = (l.flatMap f).drop (i * m)
  | l, 0 => by simp
  | [], i + 1 => by simp
  | a :: l, i + 1 => by
    rw [List.drop_succ_cons, flat_drop hf l i, List.flatMap_cons, Nat.add_mul, Nat.one_mul, Nat.add_comm, ← hf a, List.drop_append]
    simp
theorem flat_take (hf : ∀ a, (f a).length = m) : ∀ (l : List α) (i : Nat), (l.take i).flatMap f = (l.flatMap f).take (i * m)
  | l, 0 => by simp
  | [], i + 1 => by simp
  | a :: l, i + 1 => by
    rw [List.take_succ_cons, List.flatMap_cons, flat_take hf l i, List.flatMap_cons, Nat.add_mul, Nat.one_mul, Nat.add_comm, ← hf a, List.take_append]
    simp
    exact (List.take_of_length_le (Nat.le_add_right _ _)).symm
theorem flat_at (hf : ∀ a, (f a).length = m) (l : List α) (i j : Nat) (hi : i < l.length) (hj : j < m) : (l.flatMap f)[i * m + j]? = (f l[i])[j]? := by
  have h1 : ((l.flatMap f).drop (i * m))[j]? = (l.flatMap f)[i * m + j]? := List.getElem?_drop
  rw [← h1, ← flat_drop hf, List.drop_eq_getElem_cons hi, List.flatMap_cons, List.getElem?_append_left (by rw [hf]; exact hj)]
theorem flat_set (hf : ∀ a, (f a).length = m) (l : List α) (i j : Nat) (x : α) (v : β) (hi : i < l.length) (hj : j < m) (hx : f x = (f l[i]).set j v) : (l.set i x).flatMap f = (l.flatMap f).set (i * m + j) v := by
  have hsplit : l.flatMap f = (l.take i).flatMap f ++ (f l[i] ++ (l.drop (i + 1)).flatMap f) := by
    conv => lhs; rw [← List.take_append_drop i l, List.drop_eq_getElem_cons hi]
    rw [List.flatMap_append, List.flatMap_cons]
  have hl : ((l.take i).flatMap f).length = i * m := by rw [flat_len hf, List.length_take]; congr 1; omega
  rw [hsplit, List.set_append_right _ _ (by omega), hl, show i * m + j - i * m = j by omega, List.set_append_left _ _ (by rw [hf]; exact hj), ← hx, List.set_eq_take_append_cons_drop, if_pos hi, List.flatMap_append, List.flatMap_cons]
theorem flat_ins (hf : ∀ a, (f a).length = m) (l : List α) (i : Nat) (x : α) : (l.take i ++ x :: l.drop i).flatMap f = (l.flatMap f).take (i * m) ++ (f x ++ (l.flatMap f).drop (i * m)) := by
  rw [List.flatMap_append, List.flatMap_cons, flat_take hf, flat_drop hf]
end
theorem cntCells_len (c : List Int) : (cntCells c).length = 14 := by simp [cntCells]
theorem gn_get (N : List (List Int)) (i : Nat) (h : i < N.length) : gn N i = N[i] := by simp [gn, List.getD_eq_getElem?_getD, h]
theorem flatN_at (N : List (List Int)) (i j : Nat) (hi : i < N.length) (hj : j < 14) : (N.flatMap cntCells)[i * 14 + j]? = some (cntV (gn N i) j) := by
  rw [flat_at cntCells_len N i j hi hj, gn_get N i hi]
  simp [cntCells, hj]
/-- The row of all numbers. -/
structure GRow (P : FP) (N : List (List Int)) (v : Value) (uI uD uL : List Value) (W : World) : Prop where
  row : W.ownsRow P.B 79 14 v N.length (N.flatMap cntCells)
  out : ∀ g, v.ownBlock = some g → ¬ P.feet uI uD uL g ∧ ¬ P.X g
  len : ∀ c ∈ N, c.length = 14
theorem GRow.below {P : FP} {N : List (List Int)} {v : Value} {uI uD uL : List Value} {W W' : World} (h : GRow P N v uI uD uL W) (hb : Below W.heap.size W W') : GRow P N v uI uD uL W' :=
  ⟨own_upd h.row (Upd.of_below hb) fun k hk e => by have := (h.row.lt k hk).2; omega, h.out, h.len⟩
theorem GRow.rdN {P : FP} {N : List (List Int)} {v : Value} {uI uD uL : List Value} {W : World} (h : GRow P N v uI uD uL W) : ∃ A c, v = .slice A N.length c ∧ RdN W A N := by
  obtain ⟨A, c, e, hr⟩ := own_rd h.row
  refine ⟨A, c, e, ⟨hr.le, fun k hk j hj => ?_⟩⟩
  have hlt : k * 14 + j < (N.flatMap cntCells).length := by rw [flat_len cntCells_len]; omega
  obtain ⟨ad, e1, h1⟩ := hr.cell (k * 14 + j) hlt
  refine ⟨ad, e1, ?_⟩
  rw [h1]
  have h2 := flatN_at N k j hk hj
  rw [List.getElem?_eq_getElem hlt] at h2
  exact h2
theorem GRow.block {P : FP} {N : List (List Int)} {v : Value} {uI uD uL : List Value} {W : World} (h : GRow P N v uI uD uL W) (i : Nat) (hi : i < N.length) : ∃ g c cur, v = .slice (some ⟨g, 0, none⟩) N.length c ∧ W.heap[g]? = some (.cells cur 79 (0, 0)) ∧ ∀ j, j < 14 → cur[i * 14 + j]? = some (cntV (gn N i) j) := by
  rcases h.row.2 with ⟨e, e0⟩ | ⟨g, cap, cur, e, hb, hh, h1, h2, h3, h4⟩
  · omega
  · refine ⟨g, cap, cur, e, hh, fun j hj => ?_⟩
    have e2 : (cur.toList.take (N.length * 14))[i * 14 + j]? = (N.flatMap cntCells)[i * 14 + j]? := by rw [← h4]
    rw [List.getElem?_take, if_pos (by omega), Array.getElem?_toList, flatN_at N i j hi hj] at e2
    exact e2
/-- One number of an instruction is stored. -/
theorem GRow.stored {P : FP} {N : List (List Int)} {g c : Nat} {uI uD uL : List Value} {W : World} (h : GRow P N (.slice (some ⟨g, 0, none⟩) N.length c) uI uD uL W) (i j : Nat) (hi : i < N.length) (h1 : 1 ≤ j) (hj : j < 14) (x : Int) (N' : List (List Int)) (hN : N' = N.set i ((gn N i).set j x)) :
    GRow P N' (.slice (some ⟨g, 0, none⟩) N'.length c) uI uD uL (W.setCell ⟨g, i * 14 + j, none⟩ (.int .i64 x)) := by
  subst hN
  have hg := gn_get N i hi
  have hl : (gn N i).length = 14 := by rw [hg]; exact h.len _ (List.getElem_mem hi)
  have r1 := (h.row.stored (i * 14 + j) (.int .i64 x)).1
  rw [← flat_set cntCells_len N i j ((gn N i).set j x) (.int .i64 x) hi hj (by rw [← cntCells_set _ _ _ hl h1 hj, hg])] at r1
  refine ⟨by rw [List.length_set]; exact r1, fun k hk => h.out k hk, fun y hy => ?_⟩
  rcases List.mem_or_eq_of_mem_set hy with h2 | h2
  · exact h.len y h2
  · rw [h2, List.length_set, hl]
end Go.Proofs.Ytdkacdfhapgboaa

/- sim.Feed in full: what the loop carries, and how it moves. -/
set_option linter.unusedVariables false
set_option linter.unusedSimpArgs false
namespace Go.Proofs.Ytdkacdfhapgboaa
open Go.RowKit

theorem FI.aside {P : FP} {S : FS} {vN : Value} {uI uD uL : List Value} {W W' : World} {F : Nat → Prop} (h : FI P S vN uI uD uL W) (hu : Upd F W W') (hF : ∀ k, F k → ¬ P.feet uI uD uL k ∧ ¬ P.X k) : FI P S vN uI uD uL W' := by
  have hs := hu.size
  refine ⟨h.feet.upd hu fun k hk e => (hF k e).1 (by rw [h.nI, h.nD, h.nL] at hk; exact hk), by have := h.ge; omega, h.nI, h.nD, h.nL, h.sI, h.sD, h.sL, (hu.block _ (h.out _ h.xf).1 fun e => (hF _ e).2 h.xf).trans h.box, (hu.block _ (h.out _ h.xm).1 fun e => (hF _ e).2 h.xm).trans h.mp,
    fun b hb => ⟨by have := (h.out b hb).1; omega, (h.out b hb).2⟩, h.xf, h.xm, h.mf, ?_⟩
  exact h.keep.trans hu fun b hb => .inl (.inl (hF b hb).2)

/-- What the loop carries. -/
structure GI (P : FP) (s : GS) (vN : Value) (uI uD uL : List Value) (B gP cP : Nat) (vR : Value) (W : World) : Prop where
  fi : FI P ⟨s.I, s.D, s.L, []⟩ vN uI uD uL W
  row : GRow P s.N vN uI uD uL W
  p : OwnP W B P.pb P.pt P.ph P.pr gP cP s.cs s.hist vR s.rs
  pout : ∀ k, (k = P.pb ∨ k = gP ∨ blk vR = some k) → ¬ P.feet uI uD uL k ∧ ¬ P.X k ∧ vN.ownBlock ≠ some k
theorem OwnP.lt {W : World} {B b : Nat} {t h r : Int} {g c : Nat} {cs : List Int} {hist : Int} {v : Value} {rs : List Int} (H : OwnP W B b t h r g c cs hist v rs) (k : Nat) (hk : k = b ∨ k = g ∨ blk v = some k) : k < W.heap.size := by
  rcases hk with h1 | h1 | h1
  · have := (Array.getElem?_eq_some_iff.1 H.box).1; omega
  · exact (H.cnt.lt k (by rw [h1]; rfl)).2
  · exact (H.ret.lt k h1).2
theorem GI.below {P : FP} {s : GS} {vN : Value} {uI uD uL : List Value} {B gP cP : Nat} {vR : Value} {W W' : World} (h : GI P s vN uI uD uL B gP cP vR W) (hb : Below W.heap.size W W') : GI P s vN uI uD uL B gP cP vR W' :=
  ⟨h.fi.below hb, h.row.below hb, h.p.upd (Upd.of_below hb) fun k hk e => by have := h.p.lt k hk; omega, h.pout⟩
/-- The predictor has moved. -/
theorem GI.pred {P : FP} {s : GS} {vN : Value} {uI uD uL : List Value} {B gP cP : Nat} {vR vR' : Value} {W W' : World} {cs' rs' : List Int} {hist' : Int} (h : GI P s vN uI uD uL B gP cP vR W) (hu : Upd (fun k => k = P.pb ∨ k = gP ∨ blk vR = some k) W W')
    (hp : OwnP W' B P.pb P.pt P.ph P.pr gP cP cs' hist' vR' rs') (hv : ∀ k, blk vR' = some k → blk vR = some k ∨ W.heap.size ≤ k) : GI P { s with cs := cs', hist := hist', rs := rs' } vN uI uD uL B gP cP vR' W' := by
  have hfl := h.fi.feet.lt
  refine ⟨h.fi.aside hu fun k hk => ⟨(h.pout k hk).1, (h.pout k hk).2.1⟩, ⟨own_upd h.row.row hu fun k hk e => (h.pout k e).2.2 hk, h.row.out, h.row.len⟩, hp, fun k hk => ?_⟩
  rcases hk with h1 | h1 | h1
  · exact h.pout k (.inl h1)
  · exact h.pout k (.inr (.inl h1))
  · rcases hv k h1 with h2 | h2
    · exact h.pout k (.inr (.inr h2))
    · refine ⟨fun e => ?_, fun e => ?_, fun e => ?_⟩
      · have := hfl k (by have := h.fi.nI; have := h.fi.nD; have := h.fi.nL; simp_all); omega
      · have := (h.fi.out k e).1; omega
      · have := (h.row.row.lt k e).2; omega
/-- One number is stored. -/
theorem GI.stored {P : FP} {s : GS} {g c : Nat} {uI uD uL : List Value} {B gP cP : Nat} {vR : Value} {W : World} (h : GI P s (.slice (some ⟨g, 0, none⟩) s.N.length c) uI uD uL B gP cP vR W) (i j : Nat) (hi : i < s.N.length) (h1 : 1 ≤ j) (hj : j < 14) (x : Int) (N' : List (List Int)) (hN : N' = s.N.set i ((gn s.N i).set j x)) :
    GI P { s with N := N' } (.slice (some ⟨g, 0, none⟩) N'.length c) uI uD uL B gP cP vR (W.setCell ⟨g, i * 14 + j, none⟩ (.int .i64 x)) := by
  have hu : Upd (fun k => k = g) W (W.setCell ⟨g, i * 14 + j, none⟩ (.int .i64 x)) := Upd.setCell W ⟨g, i * 14 + j, none⟩ _
  have hg := h.row.out g rfl
  have hl : N'.length = s.N.length := by rw [hN, List.length_set]
  have hr := h.row.stored i j hi h1 hj x N' hN
  refine ⟨?_, hr, h.p.upd hu fun k hk (e : k = g) => (h.pout k hk).2.2 (by rw [e]; rfl), fun k hk => h.pout k hk⟩
  rw [hl]
  exact h.fi.aside hu fun k (e : k = g) => by rw [e]; exact hg
/-- The caches have moved. -/
theorem GI.move {P : FP} {s : GS} {vN : Value} {uI uD uL uI' uD' uL' : List Value} {B gP cP : Nat} {vR : Value} {W W1 : World} {I' D' L' : List (List Int)} (h : GI P s vN uI uD uL B gP cP vR W) (hF : Feet W1 P.B P.gI P.kI P.gD P.kD P.gL P.kL uI' uD' uL' I' D' L') (hu : Upd (P.feet uI uD uL) W W1)
    (hf : ∀ k, P.feet uI' uD' uL' k → P.feet uI uD uL k ∨ W.heap.size ≤ k) (nI : I'.length = P.nI) (nD : D'.length = P.nD) (nL : L'.length = P.nL) (sI : Small P.iw I') (sD : Small P.dw D') (sL : Small P.lw L') : GI P { s with I := I', D := D', L := L' } vN uI' uD' uL' B gP cP vR W1 := by
  refine ⟨h.fi.move (S' := ⟨I', D', L', []⟩) hF hu hf nI nD nL sI sD sL, ⟨own_upd h.row.row hu fun k hk e => (h.row.out k hk).1 e, fun g hg => ⟨fun e => ?_, (h.row.out g hg).2⟩, h.row.len⟩, h.p.upd hu fun k hk e => (h.pout k hk).1 e, fun k hk => ⟨fun e => ?_, (h.pout k hk).2⟩⟩
  · rcases hf g e with h1 | h1
    · exact (h.row.out g hg).1 h1
    · have := (h.row.row.lt g hg).2; omega
  · rcases hf k e with h1 | h1
    · exact (h.pout k hk).1 h1
    · have := h.p.lt k hk; omega
theorem GI.memI {P : FP} {s : GS} {vN : Value} {uI uD uL uI' uL' : List Value} {B gP cP : Nat} {vR : Value} {W W0 W1 : World} (h : GI P s vN uI uD uL B gP cP vR W) (b0 : Below W.heap.size W W0) (at_ n : Int)
    (M : MemI W0 P.B P.gI P.kI P.gL P.kL uI' uI uL' uL (runL s.I.length P.iw s.I (linI P.il at_ n)).1 (farL P.il P.ll s.L.length P.lw s.L (runL s.I.length P.iw s.I (linI P.il at_ n)).2).1 W1) :
    GI P { s with I := (runL s.I.length P.iw s.I (linI P.il at_ n)).1, L := (farL P.il P.ll s.L.length P.lw s.L (runL s.I.length P.iw s.I (linI P.il at_ n)).2).1 } vN uI' uD uL' B gP cP vR W1 := by
  have m1 : Small P.iw (runL s.I.length P.iw s.I (linI P.il at_ n)).1 := runL_small _ h.fi.sI
  have m2 : Small P.lw (farL P.il P.ll s.L.length P.lw s.L (runL s.I.length P.iw s.I (linI P.il at_ n)).2).1 := farL_small _ h.fi.sL
  have e1 : (runL s.I.length P.iw s.I (linI P.il at_ n)).1.length = s.I.length := runL_len1 _ _ _ _
  have e2 : (farL P.il P.ll s.L.length P.lw s.L (runL s.I.length P.iw s.I (linI P.il at_ n)).2).1.length = s.L.length := farL_length _ _ _ _ _ _
  obtain ⟨f1, hu, hf⟩ := h.fi.feet.memI b0 M e1 e2
  rw [h.fi.nI, h.fi.nD, h.fi.nL] at hu hf
  exact h.move (D' := s.D) f1 hu hf (e1.trans h.fi.nI) h.fi.nD (e2.trans h.fi.nL) m1 h.fi.sD m2
theorem GI.memD {P : FP} {s : GS} {vN : Value} {uI uD uL uD' uL' : List Value} {B gP cP : Nat} {vR : Value} {W W0 W1 : World} (h : GI P s vN uI uD uL B gP cP vR W) (b0 : Below W.heap.size W W0) (at_ n : Int)
    (M : MemI W0 P.B P.gD P.kD P.gL P.kL uD' uD uL' uL (runL s.D.length P.dw s.D (linI P.dl at_ n)).1 (farL P.dl P.ll s.L.length P.lw s.L (runL s.D.length P.dw s.D (linI P.dl at_ n)).2).1 W1) :
    GI P { s with D := (runL s.D.length P.dw s.D (linI P.dl at_ n)).1, L := (farL P.dl P.ll s.L.length P.lw s.L (runL s.D.length P.dw s.D (linI P.dl at_ n)).2).1 } vN uI uD' uL' B gP cP vR W1 := by
  have m1 : Small P.dw (runL s.D.length P.dw s.D (linI P.dl at_ n)).1 := runL_small _ h.fi.sD
  have m2 : Small P.lw (farL P.dl P.ll s.L.length P.lw s.L (runL s.D.length P.dw s.D (linI P.dl at_ n)).2).1 := farL_small _ h.fi.sL
  have e1 : (runL s.D.length P.dw s.D (linI P.dl at_ n)).1.length = s.D.length := runL_len1 _ _ _ _
  have e2 : (farL P.dl P.ll s.L.length P.lw s.L (runL s.D.length P.dw s.D (linI P.dl at_ n)).2).1.length = s.L.length := farL_length _ _ _ _ _ _
  obtain ⟨f1, hu, hf⟩ := h.fi.feet.memD b0 M e1 e2
  rw [h.fi.nI, h.fi.nD, h.fi.nL] at hu hf
  exact h.move (I' := s.I) f1 hu hf h.fi.nI (e1.trans h.fi.nD) (e2.trans h.fi.nL) h.fi.sI m1 m2
/-- Three numbers, one behind the other. -/
theorem GI.add {P : FP} {s : GS} {g c : Nat} {uI uD uL : List Value} {B gP cP : Nat} {vR : Value} {W : World} (h : GI P s (.slice (some ⟨g, 0, none⟩) s.N.length c) uI uD uL B gP cP vR W) (i j : Nat) (hi : i < s.N.length) (h1 : 1 ≤ j) (hj : j + 2 < 14) (m d : Int) (r : List Int) (hr : gn s.N i = r) :
    GI P { s with N := s.N.set i (addC r j m d) } (.slice (some ⟨g, 0, none⟩) s.N.length c) uI uD uL B gP cP vR
      (((W.setCell ⟨g, i * 14 + j, none⟩ (.int .i64 (gi r j + 1))).setCell ⟨g, i * 14 + (j + 1), none⟩ (.int .i64 (gi r (j + 1) + m))).setCell ⟨g, i * 14 + (j + 2), none⟩ (.int .i64 (gi r (j + 2) + d))) := by
  have k1 := h.stored i j hi h1 (by omega) (gi r j + 1) _ rfl
  have l1 : i < (s.N.set i ((gn s.N i).set j (gi r j + 1))).length := by rw [List.length_set]; exact hi
  have k2 := k1.stored i (j + 1) l1 (by omega) (by omega) (gi r (j + 1) + m) _ rfl
  have l2 : i < ((s.N.set i ((gn s.N i).set j (gi r j + 1))).set i ((gn (s.N.set i ((gn s.N i).set j (gi r j + 1))) i).set (j + 1) (gi r (j + 1) + m))).length := by simp [hi]
  have k3 := k2.stored i (j + 2) l2 (by omega) (by omega) (gi r (j + 2) + d) (s.N.set i (addC r j m d)) (by
    simp [gn, List.getD_eq_getElem?_getD, hi] at hr ⊢
    rw [hr]
    rfl)
  simp only [List.length_set] at k3
  exact k3
theorem GI.stored' {P : FP} {s : GS} {g n c : Nat} {uI uD uL : List Value} {B gP cP : Nat} {vR : Value} {W : World} (h : GI P s (.slice (some ⟨g, 0, none⟩) n c) uI uD uL B gP cP vR W) (hn : s.N.length = n) (i j : Nat) (hi : i < n) (h1 : 1 ≤ j) (hj : j < 14) (x : Int) (N' : List (List Int)) (hN : N' = s.N.set i ((gn s.N i).set j x)) :
    GI P { s with N := N' } (.slice (some ⟨g, 0, none⟩) n c) uI uD uL B gP cP vR (W.setCell ⟨g, i * 14 + j, none⟩ (.int .i64 x)) := by
  subst hn
  have h2 := h.stored i j hi h1 hj x N' hN
  have hl : N'.length = s.N.length := by rw [hN, List.length_set]
  rw [hl] at h2
  exact h2
end Go.Proofs.Ytdkacdfhapgboaa
