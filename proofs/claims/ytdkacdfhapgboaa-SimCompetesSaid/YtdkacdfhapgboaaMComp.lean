/- 'least', the statement's own function: what is used latest is dropped. -/
import Derived.Test.YtdkacdfhapgboaaM11
import Derived.Maps.AppendAt
import Derived.IntWalk
import Derived.Deep.CutRange
import Derived.Deep.AppendLies
import Derived.BigQuiet
import Derived.Deep.RegionHeld3
import Derived.Deep.QuietTactic
set_option linter.unusedVariables false
set_option linter.unusedSimpArgs false
namespace Go.Proofs.Ytdkacdfhapgboaa
open Go.RowKit

set_option maxHeartbeats 400000 in
theorem index_int (A : Option Addr) (n c : Nat) (xs : List Int) (x : Int) (w : World) (h : RdI w .i64 A n xs) :
    Calls Try.prog 42 #[.slice A n c, .int .i64 x] w fun e w' => e = .returned (.int .i64 (idxI xs x)) ∧ w = w' := by
  have hle := h.le
  have H := Lib.hid h
  clear h
  go_enter Try.func42, Try.ntmps42
  go_wp2
  go_loop [8] (fun i => ∃ k : Nat, k ≤ n ∧ i = .int .i64 k ∧ Hid (∀ j, j < k → gi xs j ≠ x)) (fun i => n - (intOf i).toNat)
  case atStart => exact ⟨0, Nat.zero_le _, rfl, Lib.hid (fun j hj => absurd hj (Nat.not_lt_zero _))⟩
  case round =>
    obtain ⟨k, hk, rfl, hne⟩ := hrel
    by_cases hlt : k < n
    · obtain ⟨ad, rfl, hc⟩ := RdI.at H.out k hlt
      cases hx : (x == gi xs k)
      · go_wp2
        go_round
        case rel => exact ⟨k + 1, by omega, by go_num, fun j hj => by rcases Nat.lt_succ_iff_lt_or_eq.1 hj with h | rfl; exact hne.out j h; exact fun e => by simp [e] at hx⟩
        case measure => simp [intOf]; omega
      · go_wp2
        go_ret
        refine ⟨?_, rfl⟩
        rw [idxI_at xs x k (by have := H.out.length; omega) hne.out (by simpa using (beq_iff_eq.1 hx).symm)]
        rfl
    · go_wp2
      go_ret
      refine ⟨?_, rfl⟩
      rw [idxI_none xs x (fun j hj => hne.out j (by have := H.out.length; omega))]
      rfl
set_option maxHeartbeats 400000 in
theorem contains_int (A : Option Addr) (n c : Nat) (xs : List Int) (x : Int) (w : World) (h : RdI w .i64 A n xs) :
    Calls Try.prog 41 #[.slice A n c, .int .i64 x] w fun e w' => e = .returned (.bool (decide (x ∈ xs))) ∧ w = w' := by
  have H := Lib.hid h
  clear h
  have h1 := idxI_nonneg xs x
  cases h2 : decide (x ∈ xs)
  all_goals
    rw [h2] at h1
    go_enter Try.func41, Try.ntmps41
    go_wp2_with (go_at_call 42; refine (index_int _ _ _ xs _ _ H.out).mono ?_; rintro e w' ⟨rfl, rfl⟩)
    go_ret
    exact ⟨rfl, rfl⟩

/-! ### Plain words -/
theorem scanM_snoc (f : Int → Int) (y : Int) : ∀ (ys : List Int) (k : Nat) (r : Int × Nat), scanM f (ys ++ [y]) k r = (if (scanM f ys k r).1 < f y then (f y, k + ys.length) else scanM f ys k r)
  | [], k, r => rfl
  | z :: zs, k, r => by
    simp only [List.cons_append, scanM]
    rw [scanM_snoc f y zs (k + 1), show k + 1 + zs.length = k + (z :: zs).length by simp; omega]
    rfl
theorem idx_next (L : Nat) (x : Int) (xs : List Int) (y : Int) (h : y ≠ x) : (y ∈ xs → idxI (x :: xs) y = nextU L xs y ∧ 0 ≤ nextU L xs y) ∧ (y ∉ xs → idxI (x :: xs) y = -1 ∧ nextU L xs y = L) := by
  have hb : (x == y) = false := by simpa using fun e => h e.symm
  constructor
  · intro hm
    unfold idxI nextU
    rw [if_pos (by simp [hm]), if_pos hm, List.idxOf_cons, hb]
    simp
    omega
  · intro hm
    unfold idxI nextU
    rw [if_neg (by simp [hm, h]), if_neg hm]
    exact ⟨rfl, rfl⟩
theorem nextU_le (L : Nat) (xs : List Int) (y : Int) (hL : xs.length ≤ L) : nextU L xs y ≤ L := by
  unfold nextU
  split
  · rename_i h
    have := List.idxOf_lt_length_of_mem h
    omega
  · omega
theorem scanM_le (L : Nat) (xs : List Int) (hL : xs.length ≤ L) (ys : List Int) (k : Nat) (r : Int × Nat) (h : -1 ≤ r.1 ∧ r.1 ≤ L ∧ r.2 ≤ k) : -1 ≤ (scanM (nextU L xs) ys k r).1 ∧ (scanM (nextU L xs) ys k r).1 ≤ L ∧ (scanM (nextU L xs) ys k r).2 ≤ k + ys.length := by
  induction ys generalizing k r with
  | nil => simpa [scanM] using h
  | cons y ys ih =>
    simp only [scanM, List.length_cons]
    have h1 := nextU_le L xs y hL
    have h2 : 0 ≤ nextU L xs y := nextU_nonneg L xs y
    have := ih (k + 1) (if r.1 < nextU L xs y then (nextU L xs y, k) else r) (by split; exact ⟨by simp only; omega, by simp only; omega, by simp⟩; exact ⟨h.1, h.2.1, by omega⟩)
    exact ⟨this.1, this.2.1, by omega⟩
theorem RdI.drop {w : World} {k : IntKind} {ad : Addr} {n : Nat} {xs : List Int} (h : RdI w k (some ad) n xs) (i : Nat) (hi : i ≤ n) : RdI w k (some (ad.add i)) (n - i) (xs.drop i) := by
  have hl := h.length
  refine ⟨by simp; omega, by have := h.le; omega, fun j hj => ⟨_, rfl, ?_⟩⟩
  have hj' : j < n - i := by simp at hj; omega
  obtain ⟨ad', e, hc⟩ := h.at (i + j) (by omega)
  cases e
  have e2 : (ad.add i).add j = ad.add (i + j) := by
    unfold Addr.add
    by_cases h1 : i = 0
    · subst h1; simp
    · by_cases h2 : j = 0
      · subst h2; simp [h1]
      · simp [h1, h2, Nat.add_assoc]
  rw [e2, hc, nums_get]
  simp [gi, List.getD_eq_getElem?_getD]
theorem gi_drop (l : List Int) (k : Nat) (h : k < l.length) : l.drop k = gi l k :: l.drop (k + 1) := by rw [List.drop_eq_getElem_cons h, gi_get l k h]
structure LRel (w : World) (W : Nat) (l : List Int) (k m : Nat) (hs : List Int) (v : Value) (wr : World) : Prop where
  own : wr.ownsRow w.heap.size 3 1 v hs.length (nums .i64 hs)
  below : Below w.heap.size w wr
  len : hs.length ≤ W ∧ hs.length ≤ k
  cnt : leastL l.length W [] l = m + leastL l.length W hs (l.drop k)
  le : m ≤ k

attribute [local irreducible] World.setCell in
set_option maxRecDepth 100000 in
set_option maxHeartbeats 4000000 in
theorem least_any (A : Option Addr) (c : Nat) (l : List Int) (ways : Int) (w : World) (hl : RdI w .i64 A l.length l) (hc : l.length ≤ c) (hlen : l.length ≤ 1000) (hw : 1 ≤ ways ∧ ways ≤ 16) :
    Calls Try.prog 18 #[.slice A l.length c, .int .i64 ways] w fun e w' => e = .returned (.int .i64 (leastL l.length ways.toNat [] l : Nat)) ∧ Below w.heap.size w w' := by
  obtain ⟨hw1, hw2⟩ := hw
  obtain ⟨W, rfl⟩ := Int.eq_ofNat_of_zero_le (show 0 ≤ ways by omega)
  rw [Int.toNat_natCast]
  have HL := Lib.hid hl
  obtain ⟨i0, hi, hz0, hz1, hz2⟩ := info_parts info_int
  have HI := Lib.hid (And.intro hi (And.intro hz0 (And.intro hz1 hz2)))
  clear hl hi hz0 hz1 hz2
  go_enter Try.func18, Try.ntmps18
  go_wp2_with fail
  go_loopw [5, 6, 16] (fun v n i wr => ∃ (k m : Nat) (hs : List Int) (Av : Option Addr) (cv : Nat), k ≤ l.length ∧ i = .int .i64 k ∧ n = .int .i64 m ∧ v = .slice Av hs.length cv ∧ m ≤ k ∧ hs.length ≤ W ∧ hs.length ≤ k ∧ Hid (LRel w W l k m hs (.slice Av hs.length cv) wr)) (fun v n i _ => l.length - (intOf i).toNat)
  case atStart => exact ⟨0, 0, [], none, 0, Nat.zero_le _, rfl, rfl, rfl, Nat.le_refl _, Nat.zero_le _, Nat.le_refl _, Lib.hid ⟨World.ownsRow_nil _ _ _ _, Below.refl _ _, ⟨Nat.zero_le _, Nat.le_refl _⟩, by simp, Nat.le_refl _⟩⟩
  case round =>
    obtain ⟨k, m, hs, Av, cv, hk, rfl, rfl, rfl, hmk, hsW, hsk, hI⟩ := hrel
    by_cases hlt : k < l.length
    · obtain ⟨ad, e0, x0⟩ := (show RdI wr .i64 A l.length l from Rd.below HL.out hI.out.below).at k hlt
      subst e0
      obtain ⟨x, hx⟩ : ∃ x, gi l k = x := ⟨_, rfl⟩
      rw [hx] at x0
      have hdr := gi_drop l k hlt
      rw [hx] at hdr
      obtain ⟨xs, hxs⟩ : ∃ xs, l.drop (k + 1) = xs := ⟨_, rfl⟩
      rw [hxs] at hdr
      have hxl : xs.length ≤ l.length := by rw [← hxs]; simp
      have hcnt := hI.out.cnt
      rw [hdr] at hcnt
      have HC := Lib.hid hcnt
      have HDR := Lib.hid hdr
      have HXS := Lib.hid hxs
      have HX := Lib.hid hx
      clear hx hdr hxs hcnt
      obtain ⟨A1, c1, e1, hrh⟩ := own_rd hI.out.own
      cases e1
      have HRH := Lib.hid hrh
      clear hrh
      by_cases hin : x ∈ hs
      · have hd : decide (x ∈ hs) = true := decide_eq_true hin
        have HIN := Lib.hid hin
        clear hin
        go_wp2_with fail
        refine (contains_int Av hs.length cv hs x wr HRH.out).mono ?_
        rintro e w' ⟨rfl, rfl⟩
        rw [hd]
        clear hd
        go_wp2_with fail
        go_roundw
        case rel =>
          refine ⟨k + 1, m, hs, Av, cv, by omega, by go_num, rfl, rfl, by omega, hsW, by omega, Lib.hid ⟨hI.out.own, hI.out.below, ⟨hsW, by omega⟩, ?_, by omega⟩⟩
          rw [HC.out, HXS.out]
          show m + (if x ∈ hs then _ else _) = _
          rw [if_pos HIN.out]
        case measure => simp [intOf]; omega
      · have hd : decide (x ∈ hs) = false := decide_eq_false hin
        have HIN := Lib.hid hin
        clear hin
        by_cases hroom : hs.length < W
        · obtain ⟨V1, hV1⟩ : ∃ V, wr.alloc (.cells #[.int .i64 x] 3) = V := ⟨_, rfl⟩
          have hb1 : Below wr.heap.size wr V1 := by rw [← hV1]; exact balloc _ _
          have hx1 : V1.heap[wr.heap.size]? = some (.cells #[.int .i64 x] 3 (0, 0)) := by rw [← hV1]; exact heap_alloc_new _ _
          have hs1 : V1.heap.size = wr.heap.size + 1 := by rw [← hV1]; simp
          have HOWN := Lib.hid (own_upd hI.out.own (Upd.of_below hb1) fun k hk e => by have := (hI.out.own.lt k hk).2; omega)
          have HX1 := Lib.hid hx1
          have HB1 := Lib.hid hb1
          have hbase : w.heap.size ≤ V1.heap.size := by have := hI.out.below.size; omega
          clear hb1 hx1
          go_wp2_with fail
          refine (contains_int Av hs.length cv hs x wr HRH.out).mono ?_
          rintro e w' ⟨rfl, rfl⟩
          rw [hd]
          clear hd
          obtain ⟨hi, hz0, hz1, hz2⟩ := HI.out
          go_wp2_with (at_builtin; refine wpList_append_own_at _ rfl _ _ 41 rfl w.heap.size 3 i0 _ 1 8 Try.underlying41 hi hz0 hz1 hz2 rfl (by decide) _ hs.length (nums .i64 hs) rfl HOWN.out ⟨wr.heap.size, 0, none⟩ 1 1 [.int .i64 x] rfl rfl ?c1 ?c2 ?c3 ?c4 ?c5 ?_)
          case c1 =>
            intro j t hj
            have hjl := (List.getElem?_eq_some_iff.1 hj).1
            obtain rfl : j = 0 := by simpa using hjl
            have e2 : (⟨wr.heap.size, 0, none⟩ : Addr).add 0 = ⟨wr.heap.size, 0, none⟩ := rfl
            rw [e2]
            exact boxAt HX1.out (by rw [← hj]; rfl)
          case c2 => simp [Value.oneCell']
          case c3 => unfold maxLen; omega
          case c4 => omega
          case c5 => omega
          intro v4 W4 hown4 hgrow4 _ hat4
          obtain ⟨A4, c4, rfl, _⟩ := own_rd hown4
          have HO4 := Lib.hid hown4
          have HG4 := Lib.hid (Upd.of_grown hgrow4)
          clear hown4 hgrow4 hat4 hi hz0 hz1 hz2 hV1
          go_wp2_with fail
          go_roundw
          case rel =>
            have hln : (hs ++ [x]).length = hs.length + 1 := by simp
            refine ⟨k + 1, m + 1, hs ++ [x], A4, c4, by omega, by go_num, by go_num, by rw [hln], by omega, by rw [hln]; omega, by rw [hln]; omega, Lib.hid ⟨by rw [hln, nums_append]; exact HO4.out, ?_, ⟨by rw [hln]; omega, by rw [hln]; omega⟩, ?_, by omega⟩⟩
            · exact hI.out.below.trans ((HB1.out.mono hI.out.below.size).trans (HG4.out.below hbase fun k h => (HOWN.out.lt k h).1))
            · rw [HC.out, HXS.out]
              show m + (if x ∈ hs then _ else if hs.length < W then _ else _) = _
              rw [if_neg HIN.out, if_pos hroom]
              omega
          case measure => simp [intOf]; omega
        · have hfull : hs.length = W := by omega
          have hown := hI.out.own
          have hpos : 0 < hs.length := by omega
          obtain ⟨gv, rfl, cur, hbx⟩ : ∃ gv, Av = some ⟨gv, 0, none⟩ ∧ ∃ cur, wr.heap[gv]? = some (.cells cur 3 (0, 0)) := by
            rcases hown.2 with ⟨e, h0⟩ | ⟨g', cap', cur, e, _, hh, _⟩
            · omega
            · cases e; exact ⟨_, rfl, cur, hh⟩
          have hcells : ∀ j, j < hs.length → wr.cell? ⟨gv, j, none⟩ = some (.int .i64 (gi hs j)) := fun j hj => by
            have := hown.cells (g := gv) rfl j (.int .i64 (gi hs j)) (by rw [List.getElem?_eq_getElem (by simp [hj]), nums_get])
            have e2 : (⟨gv, 0, none⟩ : Addr).add j = ⟨gv, j, none⟩ := by unfold Addr.add; split <;> simp_all
            rwa [e2] at this
          have HCE := Lib.hid hcells
          have HBX := Lib.hid hbx
          have HOWN := Lib.hid hown
          have HF := Lib.hid hfull
          have hrd := (show RdI wr .i64 (some ad) l.length l from Rd.below HL.out hI.out.below).drop k (by omega)
          rw [HDR.out] at hrd
          have HRD := Lib.hid hrd
          clear hcells hbx hown hfull hrd
          go_wp2_with fail
          refine (contains_int _ hs.length cv hs x wr HRH.out).mono ?_
          rintro e w' ⟨rfl, rfl⟩
          rw [hd]
          clear hd
          go_wp2_with fail
          go_loop [9, 10, 36] (fun late at_ idx => ∃ (j b : Nat) (t : Int), j ≤ hs.length ∧ idx = .int .i64 j ∧ late = .int .i64 t ∧ at_ = .int .i64 b ∧ -1 ≤ t ∧ t ≤ 1000 ∧ b ≤ 1000 ∧ Hid (scanM (nextU l.length xs) (hs.take j) 0 (-1, 0) = (t, b))) (fun late at_ idx => hs.length - (intOf idx).toNat)
          case atStart => exact ⟨0, 0, -1, Nat.zero_le _, rfl, rfl, rfl, by omega, by omega, by omega, Lib.hid (by simp [scanM])⟩
          case round =>
            obtain ⟨j, b, t, hj, rfl, rfl, rfl, ht1, ht2, hb, hsc⟩ := hrel
            by_cases hjl : j < hs.length
            · have hcell := HCE.out j hjl
              obtain ⟨y, hy⟩ : ∃ y, gi hs j = y := ⟨_, rfl⟩
              rw [hy] at hcell
              have hyx : y ≠ x := fun e => HIN.out (by rw [← e, ← hy]; exact gi_mem hs j hjl)
              obtain ⟨hn1, hn2⟩ := idx_next l.length x xs y hyx
              have hnl := nextU_le l.length xs y hxl
              have hn0 := nextU_nonneg l.length xs y
              obtain ⟨q, hq⟩ : ∃ q, nextU l.length xs y = q := ⟨_, rfl⟩
              rw [hq] at hn1 hn2 hnl hn0
              have hnext : scanM (nextU l.length xs) (hs.take (j + 1)) 0 (-1, 0) = (if t < q then (q, j) else (t, b)) := by
                rw [List.take_succ_eq_append_getElem hjl, scanM_snoc, hsc.out, ← gi_get hs j hjl, hy, hq]
                simp [Nat.min_eq_left (Nat.le_of_lt hjl)]
              have HNX := Lib.hid hnext
              have hkn : k + 1 ≤ l.length := hlt
              have hlen2 : l.length - k = (x :: xs).length := by rw [← HDR.out]; simp
              have HQ := Lib.hid hq
              have HY := Lib.hid hy
              have HL2 := Lib.hid hlen2
              clear hnext hq hy hyx hlen2
              by_cases hym : y ∈ xs
              · have hidx := (hn1 hym).1
                have HID := Lib.hid hidx
                clear hidx hn1 hn2 hym
                skip
                by_cases htq : t < q
                · go_wp2_with fail
                  refine (index_int (some (ad.add k)) (l.length - k) (c - k) (x :: xs) y wr HRD.out).mono ?_
                  rintro e w' ⟨rfl, rfl⟩
                  rw [HID.out]
                  go_wp2_with fail
                  go_round
                  case rel =>
                    have hnx := HNX.out
                    rw [if_pos htq] at hnx
                    exact ⟨j + 1, j, q, by omega, by go_num, rfl, rfl, by omega, by omega, by omega, Lib.hid hnx⟩
                  case measure => simp [intOf]; omega
                · go_wp2_with fail
                  refine (index_int (some (ad.add k)) (l.length - k) (c - k) (x :: xs) y wr HRD.out).mono ?_
                  rintro e w' ⟨rfl, rfl⟩
                  rw [HID.out]
                  go_wp2_with fail
                  go_round
                  case rel =>
                    have hnx := HNX.out
                    rw [if_neg (by omega)] at hnx
                    exact ⟨j + 1, b, t, by omega, by go_num, rfl, rfl, by omega, by omega, by omega, Lib.hid hnx⟩
                  case measure => simp [intOf]; omega
              · obtain ⟨hidx, hqL⟩ := hn2 hym
                have HID := Lib.hid hidx
                obtain rfl : q = (l.length : Int) := hqL
                clear hidx hn1 hn2 hym
                skip
                by_cases htq : t < (l.length : Int)
                · go_wp2_with fail
                  refine (index_int (some (ad.add k)) (l.length - k) (c - k) (x :: xs) y wr HRD.out).mono ?_
                  rintro e w' ⟨rfl, rfl⟩
                  rw [HID.out]
                  go_wp2_with fail
                  go_round
                  case rel =>
                    have hnx := HNX.out
                    rw [if_pos htq] at hnx
                    exact ⟨j + 1, j, (l.length : Int), by omega, by go_num, rfl, rfl, by omega, by omega, by omega, Lib.hid hnx⟩
                  case measure => simp [intOf]; omega
                · go_wp2_with fail
                  refine (index_int (some (ad.add k)) (l.length - k) (c - k) (x :: xs) y wr HRD.out).mono ?_
                  rintro e w' ⟨rfl, rfl⟩
                  rw [HID.out]
                  go_wp2_with fail
                  go_round
                  case rel =>
                    have hnx := HNX.out
                    rw [if_neg (by omega)] at hnx
                    exact ⟨j + 1, b, t, by omega, by go_num, rfl, rfl, by omega, by omega, by omega, Lib.hid hnx⟩
                  case measure => simp [intOf]; omega
            · have hjj : j = hs.length := by omega
              have hfar : farI l.length xs hs = b := by
                unfold farI
                rw [hjj, List.take_length] at hsc
                rw [hsc.out]
              have hbl : b < hs.length := by
                have := scanM_spec (nextU l.length xs) hs hs 0 (-1, 0) rfl (fun j hj => absurd hj (Nat.not_lt_zero _)) (.inr ⟨rfl, rfl⟩) (nextU_nonneg l.length xs) (by omega)
                have h2 := this.1
                unfold farI at hfar
                rw [hfar] at h2
                exact h2
              have hcb := HCE.out b hbl
              have hfb : wr.frozen? ⟨gv, b, none⟩ = false := boxFree HBX.out
              have HFAR := Lib.hid hfar
              have HST := Lib.hid (HOWN.out.stored b (.int .i64 x))
              clear hfar hjj
              go_wp2_with fail
              go_roundw
              case rel =>
                have hln : (hs.set b x).length = hs.length := by simp
                have hst := HST.out
                rw [show (nums .i64 hs).set b (.int .i64 x) = nums .i64 (hs.set b x) by simp [nums, List.map_set]] at hst
                refine ⟨k + 1, m + 1, hs.set b x, some ⟨gv, 0, none⟩, cv, by omega, by go_num, by go_num, by rw [hln], by omega, by rw [hln]; omega, by rw [hln]; omega, Lib.hid ⟨by rw [hln]; exact hst.1, ?_, ⟨by rw [hln]; omega, by rw [hln]; omega⟩, ?_, by omega⟩⟩
                · exact hI.out.below.trans ((Upd.setCell wr ⟨gv, b, none⟩ (.int .i64 x)).below hI.out.below.size fun k' (h : k' = gv) => by have := (HOWN.out.lt gv rfl).1; omega)
                · rw [HC.out, HXS.out]
                  show m + (if x ∈ hs then _ else if hs.length < W then _ else _) = _
                  rw [if_neg HIN.out, if_neg hroom, HFAR.out]
                  omega
              case measure => simp [intOf]; omega
    · have hkl : k = l.length := by omega
      have hcnt := hI.out.cnt
      rw [hkl, List.drop_length] at hcnt
      have HC := Lib.hid hcnt
      clear hcnt hkl
      go_wp2
      go_ret
      refine ⟨?_, hI.out.below⟩
      rw [HC.out]
      rfl
end Go.Proofs.Ytdkacdfhapgboaa

/- SimCompetes: the least recently used against any replacement. -/
set_option linter.unusedVariables false
set_option linter.unusedSimpArgs false
namespace Go.Proofs.Ytdkacdfhapgboaa
open Go.RowKit

theorem mul_le_c {a b x y : Int} (ha : 0 ≤ a ∧ a ≤ x) (hb : 0 ≤ b ∧ b ≤ y) : 0 ≤ a * b ∧ a * b ≤ x * y :=
  ⟨Int.mul_nonneg ha.1 hb.1, Int.mul_le_mul ha.2 hb.2 hb.1 (by omega)⟩
theorem lruMiss_le (k : Nat) : ∀ (xs l : List Int), lruMiss k l xs ≤ xs.length
  | [], l => Nat.le_refl _
  | x :: xs, l => by
    show (if x ∈ l.take k then 0 else 1) + lruMiss k (frontL l x) xs ≤ xs.length + 1
    have := lruMiss_le k xs (frontL l x)
    split <;> omega
theorem leastL_le (L w : Nat) : ∀ (xs here : List Int), leastL L w here xs ≤ xs.length
  | [], here => Nat.le_refl _
  | x :: xs, here => by
    show (if x ∈ here then leastL L w here xs else if here.length < w then leastL L w (here ++ [x]) xs + 1 else leastL L w (here.set (farI L xs here) x) xs + 1) ≤ xs.length + 1
    have h1 := leastL_le L w xs here
    have h2 := leastL_le L w xs (here ++ [x])
    have h3 := leastL_le L w xs (here.set (farI L xs here) x)
    split
    · omega
    · split <;> omega

structure CRel (W2 : World) (line : Int) (xs : List Int) (k : Nat) (v : Value) (wr : World) : Prop where
  own : wr.ownsRow W2.heap.size 3 1 v k (nums .i64 (lns line (xs.take k)))
  below : Below W2.heap.size W2 wr

attribute [local irreducible] World.setCell in
set_option maxRecDepth 100000 in
set_option maxHeartbeats 4000000 in
theorem competes_any (a b d : Int) (ha : 0 ≤ a ∧ a < 256) (hb : 0 ≤ b ∧ b < 256) (hd : 0 ≤ d ∧ d < 256) (A : Option Addr) (xs : List Int) (cap : Nat) (w : World) (hr : RdI w .u32 A xs.length xs) (hu : ∀ x ∈ xs, 0 ≤ x ∧ x < 4294967296) (hm : xs.length ≤ 9223372036854775807) :
    Calls Try.prog 5 #[.int .u8 a, .int .u8 b, .int .u8 d, .slice A xs.length cap] w fun e w' => e = .returned (.bool true) ∧ Below w.heap.size w w' := by
  have HR := Lib.hid hr
  have HU := Lib.hid hu
  have HA := Lib.hid ha
  have HB := Lib.hid hb
  obtain ⟨d1, d2⟩ := hd
  clear hr hu ha hb
  by_cases hlen : 150 < xs.length
  · go_enter Try.func5, Try.ntmps5
    go_wp2_with fail
    refine (sane_any _).mono ?_
    rintro e W ⟨rfl, hb⟩
    go_wp2
    go_ret
    exact ⟨rfl, hb⟩
  · go_enter Try.func5, Try.ntmps5
    go_wp2_with fail
    refine (shaped_any a 0 b HA.out ⟨by omega, by omega⟩ HB.out _).mono ?_
    rintro e W1 ⟨rfl, hb1⟩
    have hset : setsOf 0 = 1 := rfl
    rw [hset]
    clear hset
    have hsh := shape_of a 0 b
    rw [show ((setsOf 0 : Nat) : Int) = ((1 : Nat) : Int) from rfl] at hsh
    obtain ⟨hdv, hl1, hl2⟩ := lineOf_dvd a
    have hw12 : 1 ≤ waysOf b ∧ waysOf b ≤ 16 := by unfold waysOf; omega
    obtain ⟨line, hline⟩ : ∃ line, lineOf a = line := ⟨_, rfl⟩
    obtain ⟨W, hW⟩ : ∃ W : Nat, waysOf b = (W : Int) := ⟨(waysOf b).toNat, by omega⟩
    rw [hline] at hsh hdv hl1 hl2 ⊢
    rw [hW] at hsh hw12 ⊢
    obtain ⟨hw1, hw2⟩ := hw12
    have HSH := Lib.hid hsh
    have HDV := Lib.hid hdv
    clear hsh hdv hline hW
    obtain ⟨V1, hV1⟩ : ∃ V, W1.alloc (.cells #[.int .i64 line, .int .i64 1, .int .i64 (W : Int)] 25) = V := ⟨_, rfl⟩
    have hbv : Below W1.heap.size W1 V1 := by rw [← hV1]; exact balloc _ _
    have hx1 : V1.heap[W1.heap.size]? = some (.cells #[.int .i64 line, .int .i64 1, .int .i64 (W : Int)] 25 (0, 0)) := by rw [← hV1]; exact heap_alloc_new _ _
    have HX1 := Lib.hid hx1
    have HB1 := Lib.hid (bvia hb1 hbv (Nat.le_refl _))
    have y0 := boxAt (i := 0) hx1 rfl
    have y1 := boxAt (i := 1) hx1 rfl
    have y2 := boxAt (i := 2) hx1 rfl
    obtain ⟨r, hrm⟩ : ∃ r, d % (W : Int) = r := ⟨_, rfl⟩
    have hr0 : 0 ≤ r := by rw [← hrm]; exact Int.emod_nonneg _ (by omega)
    have hrW : r < (W : Int) := by rw [← hrm]; exact Int.emod_lt_of_pos _ (by omega)
    have hrt : d.tmod (W : Int) = r := by rw [Int.tmod_eq_emod_of_nonneg d1, hrm]
    have hW0 : ¬ (W : Int) = 0 := by omega
    have hwd : IntKind.i64.wrap d = d := IntWalk.i64_in _ (by omega)
    have hwr : IntKind.i64.wrap r = r := IntWalk.i64_in _ (by omega)
    have hwh : IntKind.i64.wrap ((W : Int) - r) = (W : Int) - r := IntWalk.i64_in _ (by omega)
    clear hb1 hbv hx1 hrm
    go_wp2_with fail
    go_quiet (fail)
    have HDN := Lib.hid (bdrewN (Below.refl V1.heap.size V1) nq)
    have HRV := Lib.hid (show RdI (V1.drewN nq) .u32 A xs.length xs from Rd.below HR.out (HB1.out.trans (HDN.out.mono HB1.out.size)))
    have hdx := belowBox HDN.out HX1.out
    obtain ⟨V2, hV2⟩ : ∃ V, V1.drewN nq = V := ⟨_, rfl⟩
    rw [hV2] at HDN HRV hdx ⊢
    have z0 := boxAt (i := 0) hdx rfl
    have z1 := boxAt (i := 1) hdx rfl
    have z2 := boxAt (i := 2) hdx rfl
    have HDX := Lib.hid hdx
    clear hV2 y0 y1 y2 hdx
    go_wp2_with fail
    refine (replayed_any line W 1 A cap xs V2 HSH.out HRV.out (by omega) HU.out).mono ?_
    rintro e W2 ⟨v, rfl, hown, hb2⟩
    obtain ⟨Ag, cg, rfl, hgot⟩ := own_rd hown
    have HGOT := Lib.hid hgot
    have HB2 := Lib.hid hb2
    have HX2 := Lib.hid (belowBox hb2 HDX.out)
    have hsz12 : w.heap.size ≤ V2.heap.size ∧ V2.heap.size ≤ W2.heap.size := ⟨by have := HB1.out.size; have := HDN.out.size; omega, hb2.size⟩
    have HR2 := Lib.hid (show RdI W2 .u32 A xs.length xs from Rd.below HRV.out HB2.out)
    obtain ⟨hsz1, hsz2⟩ := hsz12
    have hwl : IntKind.u32.wrap line = line := IntWalk.u32_in _ (by omega)
    obtain ⟨i0, hi, hz0', hz1', hz2'⟩ := info_parts info_int
    have HI := Lib.hid (And.intro hi (And.intro hz0' (And.intro hz1' hz2')))
    clear hown hb2 hgot z0 z1 z2 hi hz0' hz1' hz2' hwd hwr hwh hrt
    go_wp2_with fail
    go_loopw [13, 14, 42] (fun ms v i wr => ∃ (k m : Nat) (Av : Option Addr) (cv : Nat), k ≤ xs.length ∧ i = .int .i64 k ∧ ms = .int .i64 m ∧ v = .slice Av k cv ∧ m ≤ k ∧ Hid (CRel W2 line xs k (.slice Av k cv) wr) ∧ Hid (m = lruMiss W [] (lns line (xs.take k)))) (fun ms v i _ => xs.length - (intOf i).toNat)
    case atStart => exact ⟨0, 0, none, 0, Nat.zero_le _, rfl, rfl, rfl, Nat.le_refl _, Lib.hid ⟨World.ownsRow_nil _ _ _ _, Below.refl _ _⟩, Lib.hid rfl⟩
    case round =>
      obtain ⟨k, m, Av, cv, hk, rfl, rfl, rfl, hmk, hI, hM⟩ := hrel
      by_cases hlt : k < xs.length
      · obtain ⟨ad, e0, x0⟩ := (show RdI wr .u32 A xs.length xs from Rd.below HR2.out hI.out.below).at k hlt
        subst e0
        obtain ⟨x, hx⟩ : ∃ x, gi xs k = x := ⟨_, rfl⟩
        have hxu := HU.out _ (gi_mem xs k hlt)
        rw [hx] at x0 hxu
        obtain ⟨hx1, hx2⟩ := hxu
        have hbx := belowBox hI.out.below HX2.out
        have z0 := boxAt (i := 0) hbx rfl
        obtain ⟨ag, eg, y0⟩ := (show RdB wr Ag xs.length _ from Rd.below HGOT.out hI.out.below).at k hlt
        subst eg
        obtain ⟨q, hq⟩ : ∃ q, x / line = q := ⟨_, rfl⟩
        have hq0 : 0 ≤ q := by rw [← hq]; exact Int.ediv_nonneg hx1 (by omega)
        have hqx : q ≤ x := by rw [← hq]; exact Int.ediv_le_self _ hx1
        have hqt : x.tdiv line = q := by rw [Int.tdiv_eq_ediv_of_nonneg hx1, hq]
        have hqu : IntKind.u32.wrap q = q := IntWalk.u32_in _ (by omega)
        have hqi : IntKind.i64.wrap q = q := IntWalk.i64_in _ (by omega)
        have hl0 : ¬ line = 0 := by omega
        have HQ := Lib.hid hq
        have HX := Lib.hid hx
        have HCC := Lib.hid (miss_count line W (by omega) HDV.out xs HU.out k hlt)
        obtain ⟨g, hg⟩ : ∃ g, gb (replayL line (1 : Nat) W (List.replicate 1 []) xs).2 k = g := ⟨_, rfl⟩
        have HG := Lib.hid hg
        rw [hg] at y0
        obtain ⟨hi, hz0', hz1', hz2'⟩ := HI.out
        clear hg hx hq
        go_wp2_with fail
        have hba : Below wr.heap.size wr (wr.alloc (.cells #[.int .i64 q] 3)) := balloc _ _
        have hbd : Below wr.heap.size wr (wr.alloc (.cells #[.int .i64 q] 3)).drew := bdrewN hba 1
        have hown := own_upd hI.out.own (Upd.of_below hbd) fun k hk e => by have := (hI.out.own.lt k hk).2; omega
        have hx3 : (wr.alloc (.cells #[.int .i64 q] 3)).drew.heap[wr.heap.size]? = some (.cells #[.int .i64 q] 3 (0, 0)) := heap_alloc_new _ _
        have hs3 : (wr.alloc (.cells #[.int .i64 q] 3)).drew.heap.size = wr.heap.size + 1 := by simp [World.drew]
        have hbs : W2.heap.size ≤ wr.heap.size := hI.out.below.size
        have x0W : W2.cell? (ad.add k) = some (.int .u32 x) := by
          obtain ⟨ad', e, h⟩ := HR2.out.at k hlt
          cases e
          rw [HX.out] at h
          exact h
        have z0W : W2.cell? ⟨W1.heap.size, 0, none⟩ = some (.int .i64 line) := boxAt (i := 0) HX2.out rfl
        have y0W : W2.cell? (ag.add k) = some (.bool g) := by
          obtain ⟨ad', e, h⟩ := (show RdB W2 (some ag) xs.length _ from HGOT.out).at k hlt
          cases e
          rw [HG.out] at h
          exact h
        have kp : ∀ W', Below W2.heap.size W2 W' → (W'.cell? (ad.add k) = some (.int .u32 x) ∧ W'.cell? ⟨W1.heap.size, 0, none⟩ = some (.int .i64 line)) := fun W' h => ⟨bkeep h x0W, bkeep h z0W⟩
        have Y0 := Lib.hid y0W
        have hc1 : ∀ j t, ([.int .i64 q] : List Value)[j]? = some t → (wr.alloc (.cells #[.int .i64 q] 3)).drew.cell? ((⟨wr.heap.size, 0, none⟩ : Addr).add j) = some t := fun j t hj => by
          have hjl := (List.getElem?_eq_some_iff.1 hj).1
          obtain rfl : j = 0 := by simpa using hjl
          have e2 : (⟨wr.heap.size, 0, none⟩ : Addr).add 0 = ⟨wr.heap.size, 0, none⟩ := rfl
          rw [e2]
          exact boxAt hx3 (by rw [← hj]; rfl)
        have HA3 := Lib.hid (hI.out.below.trans (hba.mono hbs))
        have HD3 := Lib.hid (hI.out.below.trans (hbd.mono hbs))
        have HO3 := Lib.hid hown
        have HS3 := Lib.hid hs3
        have KP := Lib.hid kp
        have HC1 := Lib.hid hc1
        have hbase : W2.heap.size ≤ wr.heap.size := hI.out.below.size
        clear hba hbd hown hx3 hs3 kp hc1 x0W z0W y0W hbs
        go_region_held3 (fun W' => W'.cell? (ad.add k) = some (.int .u32 x) ∧ W'.cell? ⟨W1.heap.size, 0, none⟩ = some (.int .i64 line)) (first | exact ⟨x0, z0⟩ | exact KP.out _ HA3.out | exact KP.out _ HD3.out | exact KP.out _ hb4)
          (first
            | (refine step_append_lies _ rfl (.tmp 45) (.tmp 55) 41 rfl W2.heap.size 3 i0 _ 1 8 Try.underlying41 hi hz0' hz1' hz2' rfl (by decide) _ k (nums .i64 (lns line (xs.take k))) rfl HO3.out ⟨wr.heap.size, 0, none⟩ 1 1 [.int .i64 q] rfl rfl HC1.out (by simp [Value.oneCell']) (by omega) (by unfold maxLen; omega) (by omega) (by rw [HS3.out]; omega) _ rfl ?_
               intro g4 c4 W4 hown4 hgrow4 _ _
               have hb4 : Below W2.heap.size W2 W4 := HD3.out.trans ((Upd.of_grown hgrow4).below (by rw [HS3.out]; omega) fun k' h => (HO3.out.lt k' h).1)))
        have HB4 := Lib.hid hb4
        have HO4 := Lib.hid hown4
        have y4 := bkeep HB4.out Y0.out
        clear x0 z0 y0 hb4 hown4 hgrow4 hi hz0' hz1' hz2'
        have hrow : nums .i64 (lns line (xs.take k)) ++ [.int .i64 q] = nums .i64 (lns line (xs.take (k + 1))) := by
          rw [lns_take line xs k hlt, nums_append, HX.out, HQ.out]
          rfl
        have HROW := Lib.hid hrow
        clear hrow
        cases g
        · go_wp2_with fail
          go_roundw
          case rel =>
            refine ⟨k + 1, m + 1, some ⟨g4, 0, none⟩, c4, by omega, by go_num, by go_num, rfl, by omega, Lib.hid ⟨by rw [← HROW.out]; exact HO4.out, HB4.out⟩, Lib.hid ?_⟩
            have h1 := HCC.out
            rw [HG.out, Int.toNat_natCast] at h1
            rw [h1, ← hM.out]
            rfl
          case measure => simp [intOf]; omega
        · go_wp2_with fail
          go_roundw
          case rel =>
            refine ⟨k + 1, m, some ⟨g4, 0, none⟩, c4, by omega, by go_num, rfl, rfl, by omega, Lib.hid ⟨by rw [← HROW.out]; exact HO4.out, HB4.out⟩, Lib.hid ?_⟩
            have h1 := HCC.out
            rw [HG.out, Int.toNat_natCast] at h1
            rw [h1, ← hM.out]
            rfl
          case measure => simp [intOf]; omega
      · have hll : (lns line xs).length = xs.length := by simp [lns]
        obtain rfl : k = (lns line xs).length := by omega
        have hM2 := hM.out
        rw [hll, List.take_length] at hM2
        have hown := hI.out.own
        rw [hll, List.take_length] at hown
        rw [hll] at hmk
        have hcap : (lns line xs).length ≤ cv := by
          rcases hown.2 with ⟨e, h0⟩ | ⟨g', cap', cur, e, hle, hh, _⟩
          · injection e with e1 e2 e3; omega
          · injection e with e1 e2 e3; omega
        have HCAP := Lib.hid hcap
        obtain ⟨A1, c1, e1, hrl⟩ := own_rd hown
        injection e1 with e1 e2 e3
        subst e1 e3
        clear e2 hcap
        have HRL := Lib.hid (show RdI wr .i64 Av (lns line xs).length (lns line xs) by rw [hll]; exact hrl)
        have HLL := Lib.hid hll
        obtain ⟨h, hh⟩ : ∃ h : Int, (W : Int) - r = h := ⟨_, rfl⟩
        obtain ⟨H, hH⟩ : ∃ H : Nat, h = (H : Int) := ⟨h.toNat, by omega⟩
        rw [hh, hH]
        have hH1 : 1 ≤ H ∧ H ≤ W := by omega
        have hb := competes_bounds W H hH1.2 hH1.1 (lns line xs)
        rw [← hM2, hll] at hb
        obtain ⟨m1, hm1⟩ : ∃ m1, leastL xs.length H [] (lns line xs) = m1 := ⟨_, rfl⟩
        obtain ⟨m2, hm2⟩ : ∃ m2, leastL xs.length W [] (lns line xs) = m2 := ⟨_, rfl⟩
        have hle1 := leastL_le xs.length H (lns line xs) []
        have hle2 := leastL_le xs.length W (lns line xs) []
        rw [hm1, hll] at hle1
        rw [hm2, hll] at hle2
        rw [hm1, hm2] at hb
        obtain ⟨hb1, hb2⟩ := hb
        obtain ⟨hH2, hH3⟩ := hH1
        obtain ⟨p1, hp1⟩ : ∃ p1 : Nat, m * (W - H + 1) = p1 := ⟨_, rfl⟩
        obtain ⟨p2, hp2⟩ : ∃ p2 : Nat, W * (m1 + H) = p2 := ⟨_, rfl⟩
        rw [hp1, hp2] at hb1
        have hq2 : p2 ≤ 16 * 166 := by rw [← hp2]; exact Nat.mul_le_mul (by omega) (by omega)
        have hs1 : IntKind.i64.wrap ((W : Int) - (H : Int)) = ((W - H : Nat) : Int) := by rw [IntWalk.i64_in _ (by omega)]; omega
        have hs2 : IntKind.i64.wrap (((W - H : Nat) : Int) + 1) = ((W - H + 1 : Nat) : Int) := by rw [IntWalk.i64_in _ (by omega)]; omega
        obtain ⟨t1, ht1⟩ : ∃ t1, W - H + 1 = t1 := ⟨_, rfl⟩
        obtain ⟨t0, ht0⟩ : ∃ t0, W - H = t0 := ⟨_, rfl⟩
        have hp1' : (m : Int) * (t1 : Int) = (p1 : Int) := by rw [← hp1, ht1]; simp
        obtain ⟨t2, ht2⟩ : ∃ t2, m1 + H = t2 := ⟨_, rfl⟩
        have hp2' : (W : Int) * (t2 : Int) = (p2 : Int) := by rw [← hp2, ht2]; simp
        have hs3 : IntKind.i64.wrap ((m1 : Int) + (H : Int)) = (t2 : Int) := by rw [IntWalk.i64_in _ (by omega)]; omega
        have hs4 : IntKind.i64.wrap ((m : Int) * (t1 : Int)) = (p1 : Int) := by rw [hp1', IntWalk.i64_in _ (by omega)]
        have hs5 : IntKind.i64.wrap ((W : Int) * (t2 : Int)) = (p2 : Int) := by rw [hp2', IntWalk.i64_in _ (by omega)]
        rw [ht0] at hs1 hs2
        rw [show t0 + 1 = t1 by omega] at hs2
        have hd1 : (p1 : Int) ≤ (p2 : Int) := by omega
        have hd2 : (m2 : Int) ≤ (m : Int) := by omega
        have HM1 := Lib.hid (show leastL (lns line xs).length H [] (lns line xs) = m1 by rw [hll]; exact hm1)
        have HM2 := Lib.hid (show leastL (lns line xs).length W [] (lns line xs) = m2 by rw [hll]; exact hm2)
        have HBI := Lib.hid hI.out.below
        have hln150 : (lns line xs).length ≤ 1000 := by omega
        have HLN := Lib.hid hln150
        clear hm1 hm2 hp1 hp2 hp1' hp2' ht0 ht1 ht2 hh hH hle1 hle2 hb1 hb2 hq2 hrl hown hM2 hll hln150 hI hM
        go_wp2_with fail
        refine (least_any Av cv (lns line xs) (H : Int) wr HRL.out HCAP.out HLN.out (by omega)).mono ?_
        rintro e W5 ⟨rfl, hb5⟩
        rw [Int.toNat_natCast, HM1.out]
        have HB5 := Lib.hid hb5
        clear hb5
        go_wp2_with fail
        refine (sane_any W5).mono ?_
        rintro e W6 ⟨rfl, hb6⟩
        have hb56 : Below wr.heap.size wr W6 := HB5.out.trans (hb6.mono HB5.out.size)
        have HB6 := Lib.hid (HBI.out.trans (hb56.mono HBI.out.size))
        have HRL6 := Lib.hid (show RdI W6 .i64 Av (lns line xs).length (lns line xs) from Rd.below HRL.out hb56)
        have hbx := belowBox HB6.out HX2.out
        have z2 := boxAt (i := 2) hbx rfl
        clear hb6 hb56 hbx
        go_wp2_with fail
        refine (least_any Av cv (lns line xs) (W : Int) W6 HRL6.out HCAP.out HLN.out (by omega)).mono ?_
        rintro e W7 ⟨rfl, hb7⟩
        rw [Int.toNat_natCast, HM2.out]
        have HB7 := Lib.hid (HB6.out.trans (hb7.mono HB6.out.size))
        clear hb7
        go_wp2_with fail
        go_ret
        refine ⟨rfl, ?_⟩
        exact (HB1.out.trans (HDN.out.mono HB1.out.size)).trans ((HB2.out.mono hsz1).trans (HB7.out.mono (by omega)))
end Go.Proofs.Ytdkacdfhapgboaa
