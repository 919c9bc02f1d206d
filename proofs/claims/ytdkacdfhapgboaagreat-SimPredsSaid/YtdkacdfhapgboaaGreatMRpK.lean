/- The specification's predictor: its shape, its check, the index of a branch's counter. -/
import Derived.Test.YtdkacdfhapgboaaGreatM11
import Derived.IntWalk
import Derived.StillTail
import Derived.OwnWalk
import Derived.Lib.AppendZeros
import Derived.Deep.RegionHeld3
import Derived.Lib.SmallJoins
set_option linter.unusedVariables false
set_option linter.unusedSimpArgs false
namespace Go.Proofs.YtdkacdfhapgboaaGreat
open Go.RowKit

set_option maxHeartbeats 1000000 in
theorem rPredShape_any (a b c : Int) (w : World) : Calls Tryz.prog 65 #[.agg #[.int .i64 a, .int .i64 b, .int .i64 c]] w fun e w' => e = .returned (.bool (predShapeB a b c)) ∧ Below w.heap.size w w' := by
  cases h1 : decide (0 ≤ a) <;> cases h2 : decide (a ≤ 12) <;> cases h3 : decide (0 ≤ b) <;> cases h4 : decide (b ≤ 12) <;> cases h5 : decide (0 ≤ c) <;> cases h6 : decide (c ≤ 32)
  all_goals
    go_enter Tryz.func65, Tryz.ntmps65
    go_wp2
    go_ret
    exact ⟨by simp only [predShapeB, h1, h2, h3, h4, h5, h6]; rfl, balloc w _⟩

theorem pow_wrap (t : Nat) (ht : t ≤ 12) : ∃ n : Nat, 2 ^ t = n ∧ 1 ≤ n ∧ n ≤ 4096 ∧ IntKind.i64.wrap ((2 : Int) ^ t) = (n : Int) ∧ IntKind.u32.wrap ((2 : Int) ^ t) = (n : Int) ∧ (2 : Int) ^ t = (n : Int) := by
  obtain ⟨m, hm⟩ : ∃ m : Nat, 2 ^ t = m := ⟨_, rfl⟩
  have h4 : m ≤ 4096 := by rw [← hm]; have := Nat.pow_le_pow_right (show 0 < 2 by omega) ht; simpa using this
  have h1 : 1 ≤ m := by rw [← hm]; exact Nat.one_le_two_pow
  have e : (2 : Int) ^ t = (m : Int) := by rw [← hm]; simp
  exact ⟨m, hm, h1, h4, by rw [e]; exact IntWalk.i64_in _ (by omega), by rw [e]; exact IntWalk.u32_in _ (by omega), e⟩

set_option maxRecDepth 100000 in
set_option maxHeartbeats 2000000 in
theorem rIsPred_any (t h r : Int) (A : Option Addr) (c : Nat) (cs : List Int) (hist : Int) (R : Option Addr) (rs : List Int) (rc : Nat) (w : World) (hc : RdI w .i64 A cs.length cs) (hh : 0 ≤ hist ∧ hist < 4294967296) :
    Calls Tryz.prog 67 #[.agg #[.int .i64 t, .int .i64 h, .int .i64 r, .slice A cs.length c, .int .u32 hist, .slice R rs.length rc]] w fun e w' => e = .returned (.bool (decide (predOk t h r cs hist rs))) ∧ Below w.heap.size w w' := by
  obtain ⟨h1, h2⟩ := hh
  obtain ⟨W0, hW0⟩ : ∃ W0, w.alloc (.cells #[.int .i64 t, .int .i64 h, .int .i64 r, .slice A cs.length c, .int .u32 hist, .slice R rs.length rc] 50) = W0 := ⟨_, rfl⟩
  have hb0 : Below w.heap.size w W0 := by rw [← hW0]; exact balloc w _
  have hx0 : W0.heap[w.heap.size]? = some (.cells #[.int .i64 t, .int .i64 h, .int .i64 r, .slice A cs.length c, .int .u32 hist, .slice R rs.length rc] 50 (0, 0)) := by rw [← hW0]; exact heap_alloc_new w _
  obtain ⟨c0, c1, c2, c3, c4, c5, _⟩ := box6 hx0
  have k0 := After.cell c0
  have k1 := After.cell c1
  have k2 := After.cell c2
  have k3 := After.cell c3
  have k4 := After.cell c4
  have k5 := After.cell c5
  have HX := Lib.hid hx0
  have HB0 := Lib.hid hb0
  have HC := Lib.hid (show RdI W0 .i64 A cs.length cs from Rd.below hc hb0)
  have hcl := hc.le
  clear hc hx0 hb0
  cases hs : predShapeB t h r
  · have hf : decide (predOk t h r cs hist rs) = false := by simp [predOk, hs]
    rw [hf]
    have HP := Lib.hid (show ∀ W, Calls Tryz.prog 65 #[.agg #[.int .i64 t, .int .i64 h, .int .i64 r]] W fun e w' => e = .returned (.bool false) ∧ Below W.heap.size W w' from fun W => by rw [← hs]; exact rPredShape_any t h r W)
    go_enter Tryz.func67, Tryz.ntmps67
    go_wp2_with fail
    refine region_after (Below.refl W0.heap.size W0) (by kernel_rfl) (by kernel_rfl) ?_
    repeat (go_big_quiet_step (first
      | (go_at_call 65; exact calls_after (Nat.le_refl _) (HP.out _))))
    refine wpQuiet_nil ?_
    intro _ hw'
    obtain ⟨nq, hw''⟩ := hw'
    subst hw''
    go_wp2
    go_ret
    exact ⟨rfl, HB0.out.trans (nq.below.mono HB0.out.size)⟩
  · obtain ⟨t1, t2, u1, u2, r1, r2⟩ := predShapeB_le hs
    obtain ⟨t, rfl⟩ := Int.eq_ofNat_of_zero_le t1
    obtain ⟨h, rfl⟩ := Int.eq_ofNat_of_zero_le u1
    have HP := Lib.hid (show ∀ W, Calls Tryz.prog 65 #[.agg #[.int .i64 (t : Int), .int .i64 (h : Int), .int .i64 r]] W fun e w' => e = .returned (.bool true) ∧ Below W.heap.size W w' from fun W => by rw [← hs]; exact rPredShape_any t h r W)
    obtain ⟨N, _, N1, N2, hN, _, hN2⟩ := pow_wrap t (by omega)
    obtain ⟨M, _, M1, M2, _, hM, hM2⟩ := pow_wrap h (by omega)
    have hok : decide (predOk t h r cs hist rs) = ((decide (cs.length = N) && (decide (hist < (M : Int)) && decide ((rs.length : Int) ≤ r))) && !(cs.any badN)) := by
      simp only [predOk, hs, Int.toNat_natCast, true_and, hN2, hM2]
      cases cs.any badN <;> simp [Bool.decide_and]
      norm_cast
    rw [hok]
    clear hok hN2 hM2 hs
    have hbad : ∀ (g1 g2 g3 : Bool), (g1 && (g2 && g3)) = false → ((g1 && (g2 && g3)) && !(cs.any badN)) = false := fun g1 g2 g3 h => by rw [h]; rfl
    by_cases q1 : cs.length = N
    · subst q1
      by_cases q2 : hist < (M : Int)
      · by_cases q3 : (rs.length : Int) ≤ r
        · have q4 : decide (r < (rs.length : Int)) = false := decide_eq_false (by omega)
          have q5 : decide ((M : Int) ≤ hist) = false := decide_eq_false (by omega)
          rw [decide_eq_true rfl, decide_eq_true q2, decide_eq_true q3]
          go_enter Tryz.func67, Tryz.ntmps67
          go_wp2_with fail
          refine region_after (Below.refl W0.heap.size W0) (by kernel_rfl) (by kernel_rfl) ?_
          repeat (go_big_quiet_step (first
            | (go_at_call 65; exact calls_after (Nat.le_refl _) (HP.out _))))
          refine wpQuiet_nil ?_
          intro _ hw'
          obtain ⟨nq, hw''⟩ := hw'
          subst hw''
          clear k0 k1 k2 k3 k4 k5
          have hb1 := nq.below
          obtain ⟨W1, hW1⟩ : ∃ W, nq.W = W := ⟨_, rfl⟩
          rw [hW1] at hb1
          rw [hW1]
          obtain ⟨c0, c1, c2, c3, c4, c5, _⟩ := box6 (belowBox hb1 HX.out)
          have HC1 := Lib.hid (show RdI W1 .i64 A cs.length cs from Rd.below HC.out hb1)
          have HB1 := Lib.hid (HB0.out.trans (hb1.mono HB0.out.size))
          clear hW1 nq hb1
          go_wp2_with fail
          go_loop [3] (fun i => ∃ k : Nat, k ≤ cs.length ∧ i = .int .i64 k ∧ Hid (∀ j, j < k → badN (gi cs j) = false)) (fun i => cs.length - (intOf i).toNat)
          case atStart => exact ⟨0, Nat.zero_le _, rfl, Lib.hid (fun j hj => absurd hj (Nat.not_lt_zero _))⟩
          case round =>
            obtain ⟨k, hk, rfl, hno⟩ := hrel
            by_cases hlt : k < cs.length
            · obtain ⟨ad, rfl, hx⟩ := RdI.at HC1.out k hlt
              obtain ⟨x, hxx⟩ : ∃ x, gi cs k = x := ⟨_, rfl⟩
              rw [hxx] at hx
              have HXX := Lib.hid hxx
              clear hxx
              have hbadx : badN x = true → cs.any badN = true := fun h => List.any_eq_true.2 ⟨x, by rw [← HXX.out]; exact gi_mem cs k hlt, h⟩
              have HBX := Lib.hid hbadx
              clear hbadx
              by_cases p1 : x < 0
              · have HBB := Lib.hid (HBX.out (by simp [badN, p1]))
                go_wp2_with fail
                go_ret
                exact ⟨by rw [HBB.out]; rfl, HB1.out⟩
              · by_cases p2 : 3 < x
                · have HBB := Lib.hid (HBX.out (by simp [badN, p2]))
                  go_wp2_with fail
                  go_ret
                  exact ⟨by rw [HBB.out]; rfl, HB1.out⟩
                · have HNB := Lib.hid (show badN x = false by simp [badN]; omega)
                  go_wp2_with fail
                  go_round
                  case rel =>
                    refine ⟨k + 1, by omega, by go_num, fun j hj => ?_⟩
                    rcases Nat.lt_succ_iff_lt_or_eq.1 hj with h | rfl
                    · exact hno.out j h
                    · rw [HXX.out]; exact HNB.out
                  case measure => simp [intOf]; omega
            · have hall : cs.any badN = false := by
                rw [List.any_eq_false]
                intro y hy
                obtain ⟨j, hj, rfl⟩ := List.getElem_of_mem hy
                have := hno.out j (by omega)
                rw [gi_get cs j hj] at this
                simp [this]
              have HALL := Lib.hid hall
              clear hall
              go_wp2_with fail
              go_ret
              exact ⟨by rw [HALL.out]; rfl, HB1.out⟩
        · have q4 : decide (r < (rs.length : Int)) = true := decide_eq_true (by omega)
          have q5 : decide ((M : Int) ≤ hist) = false := decide_eq_false (by omega)
          rw [hbad _ _ _ (by rw [decide_eq_false q3]; simp)]
          go_enter Tryz.func67, Tryz.ntmps67
          go_wp2_with fail
          refine region_after (Below.refl W0.heap.size W0) (by kernel_rfl) (by kernel_rfl) ?_
          repeat (go_big_quiet_step (first
            | (go_at_call 65; exact calls_after (Nat.le_refl _) (HP.out _))))
          refine wpQuiet_nil ?_
          intro _ hw'
          obtain ⟨nq, hw''⟩ := hw'
          subst hw''
          go_wp2
          go_ret
          exact ⟨rfl, HB0.out.trans (nq.below.mono HB0.out.size)⟩
      · have q5 : (M : Int) ≤ hist := by omega
        rw [hbad _ _ _ (by rw [decide_eq_false q2]; simp)]
        go_enter Tryz.func67, Tryz.ntmps67
        go_wp2_with fail
        refine region_after (Below.refl W0.heap.size W0) (by kernel_rfl) (by kernel_rfl) ?_
        repeat (go_big_quiet_step (first
          | (go_at_call 65; exact calls_after (Nat.le_refl _) (HP.out _))))
        refine wpQuiet_nil ?_
        intro _ hw'
        obtain ⟨nq, hw''⟩ := hw'
        subst hw''
        go_wp2
        go_ret
        exact ⟨rfl, HB0.out.trans (nq.below.mono HB0.out.size)⟩
    · have q6 : ((cs.length : Int) == (N : Int)) = false := by simp; omega
      have q7 : ((cs.length : Int) != (N : Int)) = true := by simp; omega
      rw [hbad _ _ _ (by rw [decide_eq_false q1]; simp)]
      go_enter Tryz.func67, Tryz.ntmps67
      go_wp2_with fail
      refine region_after (Below.refl W0.heap.size W0) (by kernel_rfl) (by kernel_rfl) ?_
      repeat (go_big_quiet_step (first
        | (go_at_call 65; exact calls_after (Nat.le_refl _) (HP.out _))))
      refine wpQuiet_nil ?_
      intro _ hw'
      obtain ⟨nq, hw''⟩ := hw'
      subst hw''
      go_wp2
      go_ret
      exact ⟨rfl, HB0.out.trans (nq.below.mono HB0.out.size)⟩

theorem rCheckPred_any (t h r : Int) (A : Option Addr) (c : Nat) (cs : List Int) (hist : Int) (R : Option Addr) (rs : List Int) (rc : Nat) (w : World) (hc : RdI w .i64 A cs.length cs) (hh : 0 ≤ hist ∧ hist < 4294967296) :
    Calls Tryz.prog 27 #[.agg #[.int .i64 t, .int .i64 h, .int .i64 r, .slice A cs.length c, .int .u32 hist, .slice R rs.length rc]] w fun e w' => e = .returned (.int .i64 (if predOk t h r cs hist rs then 0 else 330)) ∧ Below w.heap.size w w' := by
  obtain ⟨W0, hW0⟩ : ∃ W0, w.alloc (.cells #[.int .i64 t, .int .i64 h, .int .i64 r, .slice A cs.length c, .int .u32 hist, .slice R rs.length rc] 50) = W0 := ⟨_, rfl⟩
  have hb0 : Below w.heap.size w W0 := by rw [← hW0]; exact balloc w _
  have hx0 : W0.heap[w.heap.size]? = some (.cells #[.int .i64 t, .int .i64 h, .int .i64 r, .slice A cs.length c, .int .u32 hist, .slice R rs.length rc] 50 (0, 0)) := by rw [← hW0]; exact heap_alloc_new w _
  obtain ⟨c0, c1, c2, c3, c4, c5, _⟩ := box6 hx0
  have HC := Lib.hid (Rd.below hc hb0)
  clear hc hx0
  by_cases hq : predOk t h r cs hist rs
  · have HQ := Lib.hid (decide_eq_true hq)
    rw [if_pos hq]
    clear hq
    go_enter Tryz.func27, Tryz.ntmps27
    go_wp2_with fail
    refine (rIsPred_any t h r A c cs hist R rs rc _ HC.out hh).mono ?_
    rintro e W ⟨rfl, hb⟩
    rw [HQ.out]
    go_wp2
    go_ret
    exact ⟨rfl, bvia hb0 hb (Nat.le_refl _)⟩
  · have HQ := Lib.hid (decide_eq_false hq)
    rw [if_neg hq]
    clear hq
    go_enter Tryz.func27, Tryz.ntmps27
    go_wp2_with fail
    refine (rIsPred_any t h r A c cs hist R rs rc _ HC.out hh).mono ?_
    rintro e W ⟨rfl, hb⟩
    rw [HQ.out]
    go_wp2
    go_ret
    exact ⟨rfl, bvia hb0 hb (Nat.le_refl _)⟩
end Go.Proofs.YtdkacdfhapgboaaGreat

/- The specification's predictor: the index of a branch's counter, Predict, Train. -/
set_option linter.unusedVariables false
set_option linter.unusedSimpArgs false
namespace Go.Proofs.YtdkacdfhapgboaaGreat
open Go.RowKit

set_option maxRecDepth 100000 in
set_option maxHeartbeats 1000000 in
theorem rIndex_any (t : Nat) (h r : Int) (A : Option Addr) (c n : Nat) (hist : Int) (R : Option Addr) (rl rc : Nat) (pc : Int) (w : World) (ht : t ≤ 12) (N : Nat) (hN : 2 ^ t = N) (hh : 0 ≤ hist ∧ hist < 4294967296) (hp : 0 ≤ pc ∧ pc < 4294967296) :
    Calls Tryz.prog 69 #[.agg #[.int .i64 (t : Int), .int .i64 h, .int .i64 r, .slice A n c, .int .u32 hist, .slice R rl rc], .int .u32 pc] w fun e w' => e = .returned (.int .i64 (ctrI pc hist N)) ∧ Below w.heap.size w w' := by
  obtain ⟨p1, p2⟩ := hp
  obtain ⟨N', hN', N1, N2, _, hw, _⟩ := pow_wrap t ht
  obtain rfl : N' = N := hN'.symm.trans hN
  obtain ⟨x, hx⟩ : ∃ x, bits .xor .u32 (pc / 4) hist = x := ⟨_, rfl⟩
  obtain ⟨x1, x2⟩ : 0 ≤ x ∧ x < 4294967296 := hx ▸ bits_u32_range _ _ _
  obtain ⟨y, hy⟩ : ∃ y, x % (N' : Int) = y := ⟨_, rfl⟩
  have hc : ctrI pc hist N' = y := by unfold ctrI; rw [hx, hy]
  obtain ⟨y1, y2⟩ := ctrI_range pc hist N' (by omega)
  rw [hc] at y1 y2 ⊢
  have hxt : x.tmod (N' : Int) = y := by rw [Int.tmod_eq_emod_of_nonneg x1, hy]
  have hn0 : (1 : Int) ≤ (N' : Int) := by omega
  have hn1 : ¬ (N' : Int) = 0 := by omega
  have hyw : IntKind.i64.wrap y = y := IntWalk.i64_in _ (by omega)
  have hyu : IntKind.u32.wrap y = y := IntWalk.u32_in _ (by omega)
  obtain ⟨W0, hW0⟩ : ∃ W0, w.alloc (.cells #[.int .i64 (t : Int), .int .i64 h, .int .i64 r, .slice A n c, .int .u32 hist, .slice R rl rc] 50) = W0 := ⟨_, rfl⟩
  have hb0 : Below w.heap.size w W0 := by rw [← hW0]; exact balloc w _
  have hx0 : W0.heap[w.heap.size]? = some (.cells #[.int .i64 (t : Int), .int .i64 h, .int .i64 r, .slice A n c, .int .u32 hist, .slice R rl rc] 50 (0, 0)) := by rw [← hW0]; exact heap_alloc_new w _
  obtain ⟨c0, c1, c2, c3, c4, c5, _⟩ := box6 hx0
  have HB0 := Lib.hid hb0
  clear hc hy hN hN' hx0 hb0
  go_enter Tryz.func69, Tryz.ntmps69
  go_wp2_with fail
  go_quiet (fail)
  go_wp2
  go_ret
  exact ⟨rfl, bdrewN HB0.out _⟩

set_option maxRecDepth 100000 in
set_option maxHeartbeats 1000000 in
theorem rPredict_any (t h r : Int) (A : Option Addr) (c : Nat) (cs : List Int) (hist : Int) (R : Option Addr) (rs : List Int) (rc : Nat) (pc : Int) (w : World) (hc : RdI w .i64 A cs.length cs) (hh : 0 ≤ hist ∧ hist < 4294967296) (hp : 0 ≤ pc ∧ pc < 4294967296) :
    Calls Tryz.prog 29 #[.agg #[.int .i64 t, .int .i64 h, .int .i64 r, .slice A cs.length c, .int .u32 hist, .slice R rs.length rc], .int .u32 pc] w fun e w' => e = .returned (.bool (predictB t h r cs hist rs pc)) ∧ Below w.heap.size w w' := by
  obtain ⟨W0, hW0⟩ : ∃ W0, w.alloc (.cells #[.int .i64 t, .int .i64 h, .int .i64 r, .slice A cs.length c, .int .u32 hist, .slice R rs.length rc] 50) = W0 := ⟨_, rfl⟩
  have hb0 : Below w.heap.size w W0 := by rw [← hW0]; exact balloc w _
  have hx0 : W0.heap[w.heap.size]? = some (.cells #[.int .i64 t, .int .i64 h, .int .i64 r, .slice A cs.length c, .int .u32 hist, .slice R rs.length rc] 50 (0, 0)) := by rw [← hW0]; exact heap_alloc_new w _
  obtain ⟨c0, c1, c2, c3, c4, c5, _⟩ := box6 hx0
  have k0 := After.cell c0
  have k1 := After.cell c1
  have k2 := After.cell c2
  have k3 := After.cell c3
  have k4 := After.cell c4
  have k5 := After.cell c5
  have HB0 := Lib.hid hb0
  have HC := Lib.hid (show RdI W0 .i64 A cs.length cs from Rd.below hc hb0)
  clear hc hx0 hb0
  unfold predictB
  by_cases hq : predOk t h r cs hist rs
  · have HPI := Lib.hid (fun q : After W0.heap.size W0 => rIsPred_any t h r A c cs hist R rs rc q.W (Rd.below HC.out q.below) hh)
    rw [decide_eq_true hq] at HPI
    rw [decide_eq_true hq]
    obtain ⟨l1, l2, l3⟩ := predOk_len hq
    obtain ⟨hs, hn, _⟩ := hq
    obtain ⟨t1, t2, _⟩ := predShapeB_le hs
    obtain ⟨t, rfl⟩ := Int.eq_ofNat_of_zero_le t1
    have hN : 2 ^ t = cs.length := by
      have : ((2 ^ t : Nat) : Int) = (cs.length : Int) := by rw [hn]; simp
      exact_mod_cast this
    have HIX := Lib.hid (fun q : After W0.heap.size W0 => rIndex_any t h r A c cs.length hist R rs.length rc pc q.W (by omega) cs.length hN hh hp)
    obtain ⟨y1, y2⟩ := ctrI_range pc hist cs.length l1
    obtain ⟨i, hi⟩ : ∃ i : Nat, ctrI pc hist cs.length = (i : Int) := ⟨(ctrI pc hist cs.length).toNat, by omega⟩
    rw [hi] at y1 y2 HIX ⊢
    have hil : i < cs.length := by omega
    rw [Int.toNat_natCast]
    obtain ⟨ad, rfl, hx⟩ := RdI.at HC.out i hil
    obtain ⟨x, hxx⟩ : ∃ x, gi cs i = x := ⟨_, rfl⟩
    rw [hxx] at hx ⊢
    have kx := After.cell hx
    have hle := HC.out.le
    clear hi hs hn hN hxx
    cases hd : decide (2 ≤ x)
    all_goals
      go_enter Tryz.func29, Tryz.ntmps29
      go_wp2_with fail
      refine region_after (Below.refl W0.heap.size W0) (by kernel_rfl) (by kernel_rfl) ?_
      repeat (go_big_quiet_step (first
        | (go_at_call 67; exact calls_after (Nat.le_refl _) (HPI.out _))
        | (go_at_call 69; exact calls_after (Nat.le_refl _) (HIX.out _))))
      refine wpQuiet_nil ?_
      intro _ hw'
      obtain ⟨nq, hw''⟩ := hw'
      subst hw''
      go_wp2
      go_ret
      exact ⟨rfl, HB0.out.trans (nq.below.mono HB0.out.size)⟩
  · have HPI := Lib.hid (fun q : After W0.heap.size W0 => rIsPred_any t h r A c cs hist R rs rc q.W (Rd.below HC.out q.below) hh)
    rw [decide_eq_false hq] at HPI
    rw [decide_eq_false hq]
    clear hq
    go_enter Tryz.func29, Tryz.ntmps29
    go_wp2_with fail
    refine region_after (Below.refl W0.heap.size W0) (by kernel_rfl) (by kernel_rfl) ?_
    repeat (go_big_quiet_step (first
      | (go_at_call 67; exact calls_after (Nat.le_refl _) (HPI.out _))))
    refine wpQuiet_nil ?_
    intro _ hw'
    obtain ⟨nq, hw''⟩ := hw'
    subst hw''
    go_wp2
    go_ret
    exact ⟨rfl, HB0.out.trans (nq.below.mono HB0.out.size)⟩
end Go.Proofs.YtdkacdfhapgboaaGreat

/- The specification's predictor: train, Train. -/
set_option linter.unusedVariables false
set_option linter.unusedSimpArgs false
namespace Go.Proofs.YtdkacdfhapgboaaGreat
open Go.RowKit

theorem bits_or1 (a : Nat) (h : a < 4096) : bits .or .u32 ((2 * a : Nat) : Int) 1 = ((2 * a + 1 : Nat) : Int) := by
  have h2 : (BitVec.ofInt 32 ((2 * a : Nat) : Int)).toNat = 2 * a := by
    rw [BitVec.ofInt_natCast, BitVec.toNat_ofNat]; exact Nat.mod_eq_of_lt (by omega)
  have h3 : (BitVec.ofInt 32 (1 : Int)).toNat = 1 := by decide
  have h4 : 2 * a ||| 1 = 2 * a + 1 := by
    have := Nat.two_pow_add_eq_or_of_lt (i := 1) (b := 1) (by decide) a
    simpa using this.symm
  show IntKind.u32.wrap ((BitVec.ofInt 32 ((2 * a : Nat) : Int) ||| BitVec.ofInt 32 (1 : Int)).toNat : Int) = _
  rw [BitVec.toNat_or, h2, h3, h4, IntKind.wrap_u32]
  omega
/-- The history behind a branch, as the specification reckons it. -/
theorem hist_eq (h : Nat) (hist : Int) (taken : Bool) (hh : 0 ≤ hist ∧ hist < 2 ^ h) (h12 : h ≤ 12) :
    IntKind.u32.wrap (IntKind.u32.wrap (2 * hist) + (if taken then 1 else 0)) % (2 : Int) ^ h = trainH h hist taken := by
  obtain ⟨m, hm, m1, m2, _, _, hm2⟩ := pow_wrap h h12
  rw [hm2] at hh ⊢
  have hw : IntKind.u32.wrap (2 * hist) = 2 * hist := IntWalk.u32_in _ (by omega)
  have hw' : IntKind.u32.wrap (hist * 2) = 2 * hist := by rw [show hist * 2 = 2 * hist by omega]; exact hw
  unfold trainH
  simp only [Int.toNat_natCast, hm2, hw, hw']
  cases taken
  · simp only [Bool.false_eq_true, if_false, Int.add_zero]
    rw [hw]
  · simp only [if_true]
    rw [IntWalk.u32_in (2 * hist + 1) (by omega)]
    rcases Nat.lt_or_ge m 2 with h1 | h1
    · obtain rfl : m = 1 := by omega
      simp only [Int.natCast_one, Int.emod_one]
      decide
    · have hh1 : h ≠ 0 := fun e => by subst e; simp at hm; omega
      have hk0 : ∃ k : Nat, m = 2 * k := by
        obtain ⟨g, rfl⟩ : ∃ g, h = g + 1 := ⟨h - 1, by omega⟩
        exact ⟨2 ^ g, by rw [← hm, Nat.pow_succ, Nat.mul_comm]⟩
      obtain ⟨k, hk⟩ := hk0
      obtain ⟨x, rfl⟩ := Int.eq_ofNat_of_zero_le hh.1
      have e1 : (1 : Int) % (m : Int) = 1 := Int.emod_eq_of_lt (by omega) (by omega)
      have e2 : (2 * (x : Int)) % (m : Int) = ((2 * (x % k) : Nat) : Int) := by
        rw [hk]
        have : ((2 * x) % (2 * k) : Nat) = 2 * (x % k) := Nat.mul_mod_mul_left 2 x k
        rw [← this]
        simp
      have hkx : x % k < 4096 := by
        have : x % k < k := Nat.mod_lt _ (by omega)
        omega
      rw [e1, e2, bits_or1 _ hkx]
      have e3 : ((2 * x + 1) % (2 * k) : Nat) = 2 * (x % k) + 1 := by
        have h5 := Nat.mod_add_div x k
        have h6 : x % k < k := Nat.mod_lt _ (by omega)
        have h7 : 2 * x + 1 = (2 * (x % k) + 1) + 2 * k * (x / k) := by
          rw [Nat.mul_assoc]; omega
        rw [h7, Nat.add_mul_mod_self_left, Nat.mod_eq_of_lt (by omega)]
      rw [hk, ← e3]
      simp

theorem own_setR {w : World} {base g c n : Nat} {e : TypeId} {cs : List Value} (h : w.ownsRow base e 1 (.slice (some ⟨g, 0, none⟩) n c) n cs) (i : Nat) (v : Value) : (w.setCell ⟨g, i, none⟩ v).ownsRow base e 1 (.slice (some ⟨g, 0, none⟩) n c) n (cs.set i v) := by
  refine ⟨by rw [List.length_set]; exact h.1, ?_⟩
  rcases h.2 with ⟨h', _⟩ | ⟨g', cap', cur, h', hb, hh, h1, h2, h3, h4⟩
  · simp at h'
  · simp only [Value.slice.injEq, Option.some.injEq, Addr.mk.injEq, and_true, true_and] at h'
    obtain ⟨rfl, rfl⟩ := h'
    refine .inr ⟨g, c, cur.setIfInBounds i v, rfl, hb, set1_heap hh i v, h1, h2, by simpa using h3, ?_⟩
    rw [Array.toList_setIfInBounds, List.take_set, h4]
theorem nums_setR (k : IntKind) (xs : List Int) (i : Nat) (x : Int) : nums k (xs.set i x) = (nums k xs).set i (.int k x) := by simp [nums, List.map_set]
theorem own_rdR {w : World} {base n : Nat} {e : TypeId} {A : Option Addr} {c : Nat} {cs : List Value} (h : w.ownsRow base e 1 (.slice A n c) n cs) : Rd w A n 1 cs := by
  obtain ⟨A', c', e', hr⟩ := own_rd h
  cases e'
  exact hr
theorem own_slice {w : World} {base n sz : Nat} {e : TypeId} {v : Value} {cs : List Value} (h : w.ownsRow base e sz v n cs) (hn : 1 ≤ n) : ∃ g c, v = .slice (some ⟨g, 0, none⟩) n c := by
  rcases h.2 with ⟨_, e⟩ | ⟨g, c', cur, rfl, _⟩
  · omega
  · exact ⟨g, c', rfl⟩

attribute [local irreducible] World.setCell in
set_option maxRecDepth 100000 in
set_option maxHeartbeats 2000000 in
theorem rtrain_any (t h : Nat) (r : Int) (A R : Option Addr) (c rc : Nat) (cs rs : List Int) (hist : Int) (pc : Int) (taken : Bool) (w : World) (H : RdI w .i64 A cs.length cs) (ht : t ≤ 12) (hN : 2 ^ t = cs.length) (h12 : h ≤ 12) (hh : 0 ≤ hist ∧ hist < 2 ^ h) (hp : 0 ≤ pc ∧ pc < 4294967296) (hcs : ∀ x ∈ cs, 0 ≤ x ∧ x ≤ 3) :
    Calls Tryz.prog 73 #[.agg #[.int .i64 (t : Int), .int .i64 (h : Int), .int .i64 r, .slice A cs.length c, .int .u32 hist, .slice R rs.length rc], .int .u32 pc, .bool taken] w fun e w' =>
      ∃ g c', e = .returned (.agg #[.int .i64 (t : Int), .int .i64 (h : Int), .int .i64 r, .slice (some ⟨g, 0, none⟩) cs.length c', .int .u32 (trainH h hist taken), .slice R rs.length rc]) ∧ RdI w' .i64 (some ⟨g, 0, none⟩) cs.length (trainCs cs pc hist taken) ∧ Below w.heap.size w w' ∧ w.heap.size ≤ g := by
  obtain ⟨N, hN2, N1, N2, _, _, _⟩ := pow_wrap t ht
  have hl : 1 ≤ cs.length ∧ cs.length ≤ 4096 := by omega
  have hz := hist_eq h hist taken hh h12
  obtain ⟨m, hm, m1, m2, _, hmw, hm2⟩ := pow_wrap h h12
  rw [hm2] at hz hh
  obtain ⟨hh1, hh2⟩ := hh
  have hw1 : IntKind.u32.wrap (2 * hist) = 2 * hist := IntWalk.u32_in _ (by omega)
  rw [hw1] at hz
  obtain ⟨z, hzz⟩ : ∃ z, trainH h hist taken = z := ⟨_, rfl⟩
  obtain ⟨y1, y2⟩ := ctrI_range pc hist cs.length hl.1
  obtain ⟨i, hi⟩ : ∃ i : Nat, ctrI pc hist cs.length = (i : Int) := ⟨(ctrI pc hist cs.length).toNat, by omega⟩
  have hil : i < cs.length := by omega
  have hcsx := hcs _ (gi_mem cs i hil)
  obtain ⟨x, hx⟩ : ∃ x, gi cs i = x := ⟨_, rfl⟩
  obtain ⟨x', hx'⟩ : ∃ x', trainC x taken = x' := ⟨_, rfl⟩
  have hres : trainCs cs pc hist taken = cs.set i x' := by unfold trainCs; rw [hi, Int.toNat_natCast, hx, hx']
  rw [hres, hzz]
  rw [hzz] at hz
  rw [hx] at hcsx
  obtain ⟨ad, rfl, hxc⟩ := H.at i hil
  rw [hx] at hxc
  obtain ⟨W0, hW0⟩ : ∃ W0, (w.alloc (.cells #[.int .i64 (t : Int), .int .i64 (h : Int), .int .i64 r, .slice (some ad) cs.length c, .int .u32 hist, .slice R rs.length rc] 50)).alloc (.cells #[.int .i64 0, .int .i64 0, .int .i64 0, .slice none 0 0, .int .u32 0, .slice none 0 0] 50) = W0 := ⟨_, rfl⟩
  have hb0 : Below w.heap.size w W0 := by rw [← hW0]; exact ((Below.refl _ _).alloc (Nat.le_refl _) _).alloc (by simp) _
  have hx0 : W0.heap[w.heap.size]? = some (.cells #[.int .i64 (t : Int), .int .i64 (h : Int), .int .i64 r, .slice (some ad) cs.length c, .int .u32 hist, .slice R rs.length rc] 50 (0, 0)) := by rw [← hW0]; exact (heap_alloc_old _ _ (by simp)).trans (heap_alloc_new w _)
  have hx1 : W0.heap[w.heap.size + 1]? = some (.cells #[.int .i64 0, .int .i64 0, .int .i64 0, .slice none 0 0, .int .u32 0, .slice none 0 0] 50 (0, 0)) := by rw [← hW0]; exact alloc_at _ _ _ (by simp)
  have hs0 : w.heap.size + 2 ≤ W0.heap.size := by rw [← hW0]; simp
  obtain ⟨c0, c1, c2, c3, c4, c5, _⟩ := box6 hx0
  have HH := Lib.hid (show RdI W0 .i64 (some ad) cs.length cs from Rd.below H hb0)
  have HX0 := Lib.hid hx0
  have HX1 := Lib.hid hx1
  have HB0 := Lib.hid hb0
  have HS0 := Lib.hid hs0
  have HZ := Lib.hid hz
  have HM := Lib.hid hmw
  have HI := Lib.hid hi
  have HXX := Lib.hid hx
  have HX' := Lib.hid hx'
  have HNN := Lib.hid hN
  have HW1 := Lib.hid hw1
  clear H hx0 hx1 hb0 hs0 hz hmw hi hx hx' hN hN2 hm hm2 hzz hres hw1 hcs hxc
  go_enter Tryz.func73, Tryz.ntmps73
  go_wp2_with fail
  refine (rIndex_any t h r (some ad) c cs.length hist R rs.length rc pc _ ht cs.length HNN.out ⟨hh1, by omega⟩ hp).mono ?_
  rintro e W1 ⟨rfl, hb1⟩
  rw [HI.out]
  obtain ⟨i0, hi0, hz0, hz1, hz2⟩ := info_parts info_int
  obtain ⟨V1, hV1⟩ : ∃ V, W1.alloc (.cells #[] 3) = V := ⟨_, rfl⟩
  have hbv : Below W1.heap.size W1 V1 := by rw [← hV1]; exact balloc _ _
  have HOWN := Lib.hid (World.ownsRow_lit (base := W1.heap.size) (e := 3) (size := 1) W1 #[] 0 (Nat.le_refl _) (by decide) rfl)
  rw [hV1] at HOWN
  have HC : Hid (∀ j u, (nums .i64 cs)[j]? = some u → V1.cell? (ad.add j) = some u) := fun j u hu => by
    obtain ⟨hj, rfl⟩ := List.getElem?_eq_some_iff.1 hu
    obtain ⟨ad', e, hc⟩ := HH.out.cell j hj
    obtain rfl := Option.some.inj e
    exact bkeep hbv (bkeep hb1 hc)
  have HY0 := Lib.hid (belowBox hbv (belowBox hb1 HX0.out))
  have HY1 := Lib.hid (belowBox hbv (belowBox hb1 HX1.out))
  have hbx := hb1.trans (hbv.mono hb1.size)
  have HB1 := Lib.hid (HB0.out.trans (hbx.mono HB0.out.size))
  have HS1 := Lib.hid (show w.heap.size + 2 ≤ W1.heap.size ∧ W1.heap.size ≤ V1.heap.size from ⟨Nat.le_trans HS0.out hb1.size, hbv.size⟩)
  obtain ⟨d0, d1, d2, d3, d4, d5, _⟩ := box6 HY0.out
  have HKEEP := Lib.hid (show ∀ w1 : World, V1.grownBy w1 (some W1.heap.size) → w1.heap[w.heap.size]? = some (.cells #[.int .i64 (t : Int), .int .i64 (h : Int), .int .i64 r, .slice (some ad) cs.length c, .int .u32 hist, .slice R rs.length rc] 50 (0, 0)) from fun w1 hg => (hg.block _ (by have := HS1.out; omega) (by have := HS1.out; intro e; have := Option.some.inj e; omega)).trans HY0.out)
  clear hb1 hbv hbx c0 c1 c2 c3 c4 c5
  cases taken
  all_goals
    go_wp2_with (at_builtin; refine wpList_append_own _ rfl _ _ 48 rfl W1.heap.size 3 i0 (.int .i64 0) 1 8 Tryz.underlying48 hi0 hz0 hz1 hz2 rfl (by decide) _ 0 [] rfl HOWN.out ad cs.length c (nums .i64 cs) rfl (by simp) HC.out (by simp [nums, Value.oneCell']) (by unfold maxLen; omega) (by omega) (by have := HS1.out.2; omega) ?_; intro v' w1 hown' hgrow hnil'; obtain ⟨e0, e1, e2, e3, e4, e5, e6⟩ := box6 (HKEEP.out w1 hgrow); obtain ⟨g, c', rfl⟩ := own_slice hown' (by omega))
    have hge := hown'.lt g rfl
    have hgne : g ≠ w.heap.size := by have := HS1.out; omega
    have HQ0 := Lib.hid (show (w1.setCell ⟨w.heap.size, 3, none⟩ (.slice (some ⟨g, 0, none⟩) cs.length c')).heap[w.heap.size]? = some (.cells #[.int .i64 (t : Int), .int .i64 (h : Int), .int .i64 r, .slice (some ⟨g, 0, none⟩) cs.length c', .int .u32 hist, .slice R rs.length rc] 50 (0, 0)) from set1_heap (HKEEP.out w1 hgrow) 3 _)
    have hu2 : Upd (fun k => k = w.heap.size ∨ some W1.heap.size = some k) V1 (w1.setCell ⟨w.heap.size, 3, none⟩ (.slice (some ⟨g, 0, none⟩) cs.length c')) :=
      ((Upd.of_grown hgrow).mono fun k hk => .inr hk).trans ((Upd.setCell w1 ⟨w.heap.size, 3, none⟩ _).mono (G := fun k => k = w.heap.size ∨ some W1.heap.size = some k) fun k hk => .inl hk) fun k hk => .inl hk
    have ho2 := own_upd (by rw [Nat.zero_add, List.nil_append] at hown'; exact hown') (Upd.setCell w1 ⟨w.heap.size, 3, none⟩ (.slice (some ⟨g, 0, none⟩) cs.length c')) fun k hk (e : k = w.heap.size) => hgne ((show g = k by simpa [Value.ownBlock] using hk).trans e)
    obtain ⟨W2, hW2⟩ : ∃ W, w1.setCell ⟨w.heap.size, 3, none⟩ (.slice (some ⟨g, 0, none⟩) cs.length c') = W := ⟨_, rfl⟩
    rw [hW2] at HQ0 hu2 ho2
    rw [hW2]
    have HQ1 := Lib.hid ((hu2.block (w.heap.size + 1) (by have := HS1.out; omega) (by have := HS1.out; rintro (e | e); omega; have := Option.some.inj e; omega)).trans HY1.out)
    have HB2 := Lib.hid (HB1.out.trans (hu2.below (by have := HS1.out; omega) (B := w.heap.size) fun k hk => by
      have := HS1.out
      rcases hk with e | e
      · omega
      · have := Option.some.inj e
        omega))
    have HO2 := Lib.hid ho2
    have HG := Lib.hid (show W1.heap.size ≤ g ∧ g < W2.heap.size from ⟨hge.1, by rw [← hW2]; simpa [World.setCell] using hge.2⟩)
    have ecell := (ho2.cellAt i (by omega)).trans (show (nums .i64 cs)[i]? = some (.int .i64 x) by rw [← HXX.out]; simp [nums, gi, List.getElem?_eq_getElem hil, List.getD_eq_getElem?_getD])
    have efr := ho2.frozenAt i
    obtain ⟨W2d, hW2d⟩ : ∃ W, W2.drew = W := ⟨_, rfl⟩
    have n0 : W2d.cell? ⟨g, i, none⟩ = some (.int .i64 x) := by rw [← hW2d]; exact ecell
    have n1 : W2d.frozen? ⟨g, i, none⟩ = false := by rw [← hW2d]; exact efr
    have n2 : W2d.cell? ⟨w.heap.size, 3, none⟩ = some (.slice (some ⟨g, 0, none⟩) cs.length c') := by rw [← hW2d]; exact (box6 HQ0.out).2.2.2.1
    have HD2 := Lib.hid hW2d
    have hcase : x = 0 ∨ x = 1 ∨ x = 2 ∨ x = 3 := by omega
    obtain ⟨W3, hW3⟩ : ∃ W, W2d.setCell ⟨g, i, none⟩ (.int .i64 x') = W := ⟨_, rfl⟩
    have hsc := Upd.setCell W2.drew ⟨g, i, none⟩ (.int .i64 x')
    rw [hW2d, hW3] at hsc
    have HX3 := Lib.hid (show W3.heap[w.heap.size]? = some (.cells #[.int .i64 (t : Int), .int .i64 (h : Int), .int .i64 r, .slice (some ⟨g, 0, none⟩) cs.length c', .int .u32 hist, .slice R rs.length rc] 50 (0, 0)) by
      rw [← hW3, ← hW2d]
      exact ((Upd.setCell W2.drew ⟨g, i, none⟩ (.int .i64 x')).block _ (Array.getElem?_eq_some_iff.1 HQ0.out).1 (fun (e : w.heap.size = g) => hgne e.symm)).trans HQ0.out)
    have HX3b := Lib.hid (show W3.heap[w.heap.size + 1]? = some (.cells #[.int .i64 0, .int .i64 0, .int .i64 0, .slice none 0 0, .int .u32 0, .slice none 0 0] 50 (0, 0)) by
      rw [← hW3, ← hW2d]
      exact ((Upd.setCell W2.drew ⟨g, i, none⟩ (.int .i64 x')).block _ (Array.getElem?_eq_some_iff.1 HQ1.out).1 (fun (e : w.heap.size + 1 = g) => by have := HG.out; have := HS1.out; omega)).trans HQ1.out)
    have HO3 := Lib.hid (show W3.ownsRow W1.heap.size 3 1 (.slice (some ⟨g, 0, none⟩) cs.length c') cs.length (nums .i64 (cs.set i x')) by
      rw [← hW3, ← hW2d, nums_setR]
      exact own_setR (own_upd HO2.out (Upd.drew (fun _ => False) W2) fun _ _ h => h) _ _)
    have HB3 := Lib.hid (show Below w.heap.size w W3 by
      rw [← hW3, ← hW2d]
      exact (bdrewN HB2.out 1).trans ((Upd.setCell W2.drew ⟨g, i, none⟩ (.int .i64 x')).below (by have := HB2.out.size; exact this) fun k (e : k = g) => by have := HG.out; have := HS1.out; omega))
    clear hsc
    clear hge hgne hu2 ho2 hW2 ecell efr e0 e1 e2 e3 e4 e5 e6 hgrow hown' hnil'
    rcases hcase with h4 | h4 | h4 | h4
    all_goals
      subst h4
      have hxe := HX'.out.symm
      first
        | (obtain rfl : x' = 0 := hxe.trans rfl)
        | (obtain rfl : x' = 1 := hxe.trans rfl)
        | (obtain rfl : x' = 2 := hxe.trans rfl)
        | (obtain rfl : x' = 3 := hxe.trans rfl)
      clear hxe
      have f1 := Just.cell n0
      have f2 := Just.cell n2
      refine region_tail 10 hW2d (by kernel_rfl) (by kernel_rfl) ?_
      simp only [List.take_succ_cons, List.take_zero, List.drop_succ_cons, List.drop_zero]
      repeat (go_big_quiet_step (fail))
      refine wpQuiet_nil ?_
      clear f1 f2 hW2d
      go_wp2_with fail
      clear hW3 n0 n1 n2
      have k4 := (box6 HX3.out).2.2.2.2.1
      have k1 := (box6 HX3.out).2.1
      obtain ⟨W4, hW4⟩ : ∃ W, W3.drew = W := ⟨_, rfl⟩
      have l4 : W4.cell? ⟨w.heap.size, 4, none⟩ = some (.int .u32 hist) := by rw [← hW4]; exact k4
      have l1 : W4.cell? ⟨w.heap.size, 1, none⟩ = some (.int .i64 (h : Int)) := by rw [← hW4]; exact k1
      have lf : W4.frozen? ⟨w.heap.size, 4, none⟩ = false := by rw [← hW4]; exact (box6 HX3.out).2.2.2.2.2.2 4
      have HW4 := Lib.hid hW4
      clear k4 k1
      have f1 := Just.cell l4
      have f2 := Just.cell l1
      have hmw := HM.out
      have hw1 := HW1.out
      have hm0 : ¬ (m : Int) = 0 := by omega
      have hzv := HZ.out
      have hw2 : IntKind.u32.wrap (2 * hist + 1) = 2 * hist + 1 := IntWalk.u32_in _ (by omega)
      simp only [Bool.false_eq_true, if_false, if_true, Int.add_zero, hw1, hw2] at hzv
      have hzt := (Int.tmod_eq_emod_of_nonneg (b := (m : Int)) (show (0 : Int) ≤ 2 * hist + 1 by omega))
      have hzt2 := (Int.tmod_eq_emod_of_nonneg (b := (m : Int)) (show (0 : Int) ≤ 2 * hist by omega))
      first | rw [hzv] at hzt | rw [hzv] at hzt2
      have hzr : 0 ≤ z ∧ z < (m : Int) := by rw [← hzv]; exact ⟨Int.emod_nonneg _ (by omega), Int.emod_lt_of_pos _ (by omega)⟩
      have hzw : IntKind.u32.wrap z = z := IntWalk.u32_in _ (by omega)
      clear hzr hzv
      refine region_tail 10 hW4 (by kernel_rfl) (by kernel_rfl) ?_
      simp only [List.take_succ_cons, List.take_zero, List.drop_succ_cons, List.drop_zero]
      repeat (go_big_quiet_step (fail))
      refine wpQuiet_nil ?_
      obtain ⟨W5, hW5⟩ : ∃ W, W4.setCell ⟨w.heap.size, 4, none⟩ (.int .u32 z) = W := ⟨_, rfl⟩
      have hu5 : Upd (fun k => k = w.heap.size) W3 W5 := by
        rw [← hW5, ← HW4.out]
        exact (Upd.drew (fun k => k = w.heap.size) W3).trans (Upd.setCell _ _ _) fun k hk => .inl hk
      have HX5 := Lib.hid (show W5.heap[w.heap.size]? = some (.cells #[.int .i64 (t : Int), .int .i64 (h : Int), .int .i64 r, .slice (some ⟨g, 0, none⟩) cs.length c', .int .u32 z, .slice R rs.length rc] 50 (0, 0)) by
        rw [← hW5, ← HW4.out]
        exact set1_heap (show W3.drew.heap[w.heap.size]? = _ from HX3.out) 4 _)
      have HX5b := Lib.hid ((hu5.block (w.heap.size + 1) (Array.getElem?_eq_some_iff.1 HX3b.out).1 (fun (e : w.heap.size + 1 = w.heap.size) => by omega)).trans HX3b.out)
      have HO5 := Lib.hid (own_upd HO3.out hu5 fun k hk (e : k = w.heap.size) => by have := (HO3.out.lt k hk).1; have := HS1.out; omega)
      have HB5 := Lib.hid (HB3.out.trans (hu5.below (by have := HB3.out.size; omega) fun k (e : k = w.heap.size) => by omega))
      obtain ⟨e0, e1, e2, e3, e4, e5, e6⟩ := box6 HX5.out
      obtain ⟨g0, g1, g2, g3, g4, g5, g6⟩ := box6 HX5b.out
      clear hu5 f1 f2 hW4 hmw hw1 hw2 hm0 hzt hzt2 hzw l1
      go_wp2_with fail
      (try simp only [Exit.inBlock, Exit.then])
      refine bodyPost_ret (v := .agg #[.int .i64 (t : Int), .int .i64 (h : Int), .int .i64 r, .slice (some ⟨g, 0, none⟩) cs.length c', .int .u32 z, .slice R rs.length rc]) (results_cell1 rfl rfl (run_loadVar_row (P := Tryz.prog) _ _ 50 50 _ (0, 0) _ (set6_heap HX5b.out _ _ _ _ _ _) Tryz.underlying50 rfl (by kernel_rfl))) rfl ?_
      refine ⟨g, c', rfl, ?_, bset6 HB5.out (by omega) _ _ _ _ _ _, by have := HG.out; have := HS1.out; omega⟩
      have hfin := own_upd HO5.out (uset6 W5 (w.heap.size + 1) (.int .i64 (t : Int)) (.int .i64 (h : Int)) (.int .i64 r) (.slice (some ⟨g, 0, none⟩) cs.length c') (.int .u32 z) (.slice R rs.length rc)) fun k hk (e : k = w.heap.size + 1) => by have := (HO5.out.lt k hk).1; have := HS1.out; omega
      exact own_rdR hfin
end Go.Proofs.YtdkacdfhapgboaaGreat

/- The specification's predictor: Train. -/
set_option linter.unusedVariables false
set_option linter.unusedSimpArgs false
namespace Go.Proofs.YtdkacdfhapgboaaGreat
open Go.RowKit

/-- A value that reads as these numbers, and goes on so whatever is written into the blocks of F. -/
def PredR (e : Value) (t h r : Int) (cs : List Int) (hist : Int) (rs : List Int) (F : Nat → Prop) (w : World) : Prop :=
  ∃ A c R rc, e = .agg #[.int .i64 t, .int .i64 h, .int .i64 r, .slice A cs.length c, .int .u32 hist, .slice R rs.length rc] ∧ ∀ W2, Upd F w W2 → RdI W2 .i64 A cs.length cs ∧ RdI W2 .u32 R rs.length rs
theorem PredIs.reads {w : World} {e : Value} {t h r : Int} {cs : List Int} {hist : Int} {rs : List Int} {w' : World} (H : PredIs w e t h r cs hist rs w') (B : Nat) : PredR e t h r cs hist rs (fun k => B ≤ k ∧ k < w.heap.size) w' := by
  obtain ⟨g, c, v, rfl, h1, h2, _⟩ := H
  obtain ⟨A, c2, rfl, _, _, _⟩ := h2.slice
  refine ⟨_, c, A, c2, by rw [nums_length], fun W2 hu => ⟨own_rdR (own_upd h1 hu fun k hk hf => ?_), ?_⟩⟩
  · have := (h1.lt k hk).1
    omega
  · obtain ⟨A', c', e, _, _, h4⟩ := (h2.upd hu fun k hk hf => by have := (h2.lt k hk).1; omega).slice
    rw [nums_length] at h4 e
    cases e
    exact h4
theorem Rd.old {F : Nat → Prop} {w0 w1 w2 : World} {A : Option Addr} {n sz : Nat} {cs : List Value} (h : Rd w0 A n sz cs) (hb : Below w0.heap.size w0 w1) (hu : Upd F w1 w2) (hF : ∀ k, k < w0.heap.size → ¬ F k) : Rd w2 A n sz cs :=
  ⟨h.len, h.le, fun j hj => by
    obtain ⟨ad, e, hc⟩ := h.cell j hj
    refine ⟨ad, e, ?_⟩
    have hl := World.block_lt_of_cell? w0 _ hc
    rw [← bkeep hb hc]
    simp only [World.cell?, hu.block (ad.add j).block (Nat.lt_of_lt_of_le hl hb.size) (hF _ hl)]⟩
theorem Rd.at1 {F : Nat → Prop} {w1 w2 : World} {g : Nat} {n sz : Nat} {cs : List Value} (h : Rd w1 (some ⟨g, 0, none⟩) n sz cs) (hu : Upd F w1 w2) (hF : ¬ F g) : Rd w2 (some ⟨g, 0, none⟩) n sz cs :=
  ⟨h.len, h.le, fun j hj => by
    obtain ⟨ad, e, hc⟩ := h.cell j hj
    refine ⟨ad, e, ?_⟩
    have e2 := Option.some.inj e
    have h1 : (ad.add j).block = g := by rw [← e2]; unfold Addr.add; split <;> rfl
    have hl := World.block_lt_of_cell? w1 _ hc
    rw [h1] at hl
    rw [← hc]
    simp only [World.cell?, h1, hu.block g hl hF]⟩

attribute [local irreducible] World.setCell in
set_option maxRecDepth 100000 in
set_option maxHeartbeats 1000000 in
theorem rTrain_bad (t h r : Int) (A R : Option Addr) (c rc : Nat) (cs rs : List Int) (hist : Int) (pc : Int) (taken : Bool) (w : World) (H : RdP w A c cs R rc rs) (hq : ¬ predOk t h r cs hist rs) (hh : 0 ≤ hist ∧ hist < 4294967296) :
    Calls Tryz.prog 33 #[.agg #[.int .i64 t, .int .i64 h, .int .i64 r, .slice A cs.length c, .int .u32 hist, .slice R rs.length rc], .int .u32 pc, .bool taken] w fun e w' => e = .returned (.tuple #[emptyP, .int .i64 330]) ∧ Below w.heap.size w w' := by
  have HQ := Lib.hid (decide_eq_false hq)
  clear hq
  obtain ⟨W0, hW0⟩ : ∃ W0, (w.alloc (.cells #[.int .i64 t, .int .i64 h, .int .i64 r, .slice A cs.length c, .int .u32 hist, .slice R rs.length rc] 50)).alloc (.cells #[.int .i64 0, .int .i64 0, .int .i64 0, .slice none 0 0, .int .u32 0, .slice none 0 0] 50) = W0 := ⟨_, rfl⟩
  have hb0 : Below w.heap.size w W0 := by rw [← hW0]; exact ((Below.refl _ _).alloc (Nat.le_refl _) _).alloc (by simp) _
  have hx0 : W0.heap[w.heap.size]? = some (.cells #[.int .i64 t, .int .i64 h, .int .i64 r, .slice A cs.length c, .int .u32 hist, .slice R rs.length rc] 50 (0, 0)) := by rw [← hW0]; exact (heap_alloc_old _ _ (by simp)).trans (heap_alloc_new w _)
  have hx1 : W0.heap[w.heap.size + 1]? = some (.cells #[.int .i64 0, .int .i64 0, .int .i64 0, .slice none 0 0, .int .u32 0, .slice none 0 0] 50 (0, 0)) := by rw [← hW0]; exact alloc_at _ _ _ (by simp)
  have hs0 : w.heap.size + 2 ≤ W0.heap.size := by rw [← hW0]; simp
  obtain ⟨c0, c1, c2, c3, c4, c5, _⟩ := box6 hx0
  have HH := Lib.hid (RdP.below H hb0)
  have HX0 := Lib.hid hx0
  have HX1 := Lib.hid hx1
  have HB0 := Lib.hid hb0
  have HS0 := Lib.hid hs0
  clear H hx0 hx1 hb0 hs0
  go_enter Tryz.func33, Tryz.ntmps33
  go_wp2_with fail
  refine (rIsPred_any t h r A c cs hist R rs rc _ HH.out.cnt hh).mono ?_
  rintro e W ⟨rfl, hb⟩
  rw [HQ.out]
  have HB := Lib.hid (belowBox hb HX1.out)
  obtain ⟨s0, s1, s2, s3, s4, s5, d0⟩ := box6 HB.out
  have HBW := Lib.hid (HB0.out.trans (hb.mono HB0.out.size))
  clear hb
  go_wp2_with fail
  (try simp only [Exit.inBlock, Exit.then])
  refine bodyPost_ret (v := .tuple #[emptyP, .int .i64 330]) (results_cell2 rfl rfl rfl (run_loadVar_row (P := Tryz.prog) _ _ 50 50 _ (0, 0) _ (set6_heap HB.out _ _ _ _ _ _) Tryz.underlying50 rfl (by kernel_rfl))) rfl ?_
  exact ⟨rfl, bset6 HBW.out (by omega) _ _ _ _ _ _⟩

attribute [local irreducible] World.setCell in
set_option maxRecDepth 100000 in
set_option maxHeartbeats 1000000 in
theorem rCall_bad (t h r : Int) (A R : Option Addr) (c rc : Nat) (cs rs : List Int) (hist : Int) (pc : Int) (w : World) (H : RdP w A c cs R rc rs) (hq : ¬ predOk t h r cs hist rs) (hh : 0 ≤ hist ∧ hist < 4294967296) :
    Calls Tryz.prog 35 #[.agg #[.int .i64 t, .int .i64 h, .int .i64 r, .slice A cs.length c, .int .u32 hist, .slice R rs.length rc], .int .u32 pc] w fun e w' => e = .returned (.tuple #[emptyP, .int .i64 330]) ∧ Below w.heap.size w w' := by
  have HQ := Lib.hid (decide_eq_false hq)
  clear hq
  obtain ⟨W0, hW0⟩ : ∃ W0, (w.alloc (.cells #[.int .i64 t, .int .i64 h, .int .i64 r, .slice A cs.length c, .int .u32 hist, .slice R rs.length rc] 50)).alloc (.cells #[.int .i64 0, .int .i64 0, .int .i64 0, .slice none 0 0, .int .u32 0, .slice none 0 0] 50) = W0 := ⟨_, rfl⟩
  have hb0 : Below w.heap.size w W0 := by rw [← hW0]; exact ((Below.refl _ _).alloc (Nat.le_refl _) _).alloc (by simp) _
  have hx0 : W0.heap[w.heap.size]? = some (.cells #[.int .i64 t, .int .i64 h, .int .i64 r, .slice A cs.length c, .int .u32 hist, .slice R rs.length rc] 50 (0, 0)) := by rw [← hW0]; exact (heap_alloc_old _ _ (by simp)).trans (heap_alloc_new w _)
  have hx1 : W0.heap[w.heap.size + 1]? = some (.cells #[.int .i64 0, .int .i64 0, .int .i64 0, .slice none 0 0, .int .u32 0, .slice none 0 0] 50 (0, 0)) := by rw [← hW0]; exact alloc_at _ _ _ (by simp)
  have hs0 : w.heap.size + 2 ≤ W0.heap.size := by rw [← hW0]; simp
  obtain ⟨c0, c1, c2, c3, c4, c5, _⟩ := box6 hx0
  have HH := Lib.hid (RdP.below H hb0)
  have HX0 := Lib.hid hx0
  have HX1 := Lib.hid hx1
  have HB0 := Lib.hid hb0
  have HS0 := Lib.hid hs0
  clear H hx0 hx1 hb0 hs0
  go_enter Tryz.func35, Tryz.ntmps35
  go_wp2_with fail
  refine (rIsPred_any t h r A c cs hist R rs rc _ HH.out.cnt hh).mono ?_
  rintro e W ⟨rfl, hb⟩
  rw [HQ.out]
  have HB := Lib.hid (belowBox hb HX1.out)
  obtain ⟨s0, s1, s2, s3, s4, s5, d0⟩ := box6 HB.out
  have HBW := Lib.hid (HB0.out.trans (hb.mono HB0.out.size))
  clear hb
  go_wp2_with fail
  (try simp only [Exit.inBlock, Exit.then])
  refine bodyPost_ret (v := .tuple #[emptyP, .int .i64 330]) (results_cell2 rfl rfl rfl (run_loadVar_row (P := Tryz.prog) _ _ 50 50 _ (0, 0) _ (set6_heap HB.out _ _ _ _ _ _) Tryz.underlying50 rfl (by kernel_rfl))) rfl ?_
  exact ⟨rfl, bset6 HBW.out (by omega) _ _ _ _ _ _⟩

attribute [local irreducible] World.setCell in
set_option maxRecDepth 100000 in
set_option maxHeartbeats 1000000 in
theorem rTrain_ok (t h r : Int) (A R : Option Addr) (c rc : Nat) (cs rs : List Int) (hist : Int) (pc : Int) (taken : Bool) (w0 w : World) (HO : RdP w0 A c cs R rc rs) (hbw : Below w0.heap.size w0 w) (hq : predOk t h r cs hist rs) (hh : 0 ≤ hist ∧ hist < 4294967296) (hp : 0 ≤ pc ∧ pc < 4294967296) :
    Calls Tryz.prog 33 #[.agg #[.int .i64 t, .int .i64 h, .int .i64 r, .slice A cs.length c, .int .u32 hist, .slice R rs.length rc], .int .u32 pc, .bool taken] w fun e w' =>
      ∃ u, e = .returned (.tuple #[u, .int .i64 0]) ∧ PredR u t h r (trainCs cs pc hist taken) (trainH h hist taken) rs (fun k => w0.heap.size ≤ k ∧ k < w.heap.size) w' ∧ Below w.heap.size w w' := by
  have H := HO.below hbw
  have HQ := Lib.hid (decide_eq_true hq)
  have HCS := Lib.hid (predOk_cs hq)
  obtain ⟨hs, hn, _, hh2, _⟩ := hq
  obtain ⟨t1, t2, u1, u2, _⟩ := predShapeB_le hs
  obtain ⟨t, rfl⟩ := Int.eq_ofNat_of_zero_le t1
  obtain ⟨h, rfl⟩ := Int.eq_ofNat_of_zero_le u1
  have HN := Lib.hid (show 2 ^ t = cs.length by
    have : ((2 ^ t : Nat) : Int) = (cs.length : Int) := by rw [hn]; simp
    exact_mod_cast this)
  have HH2 := Lib.hid (show hist < 2 ^ h by simpa using hh2)
  have hlc : (trainCs cs pc hist taken).length = cs.length := by unfold trainCs; simp
  have HLC := Lib.hid hlc
  have HRO := Lib.hid HO.ret
  have HBW := Lib.hid hbw
  clear hs hn hh2 hlc HO hbw
  obtain ⟨W0, hW0⟩ : ∃ W0, (w.alloc (.cells #[.int .i64 (t : Int), .int .i64 (h : Int), .int .i64 r, .slice A cs.length c, .int .u32 hist, .slice R rs.length rc] 50)).alloc (.cells #[.int .i64 0, .int .i64 0, .int .i64 0, .slice none 0 0, .int .u32 0, .slice none 0 0] 50) = W0 := ⟨_, rfl⟩
  have hb0 : Below w.heap.size w W0 := by rw [← hW0]; exact ((Below.refl _ _).alloc (Nat.le_refl _) _).alloc (by simp) _
  have hx0 : W0.heap[w.heap.size]? = some (.cells #[.int .i64 (t : Int), .int .i64 (h : Int), .int .i64 r, .slice A cs.length c, .int .u32 hist, .slice R rs.length rc] 50 (0, 0)) := by rw [← hW0]; exact (heap_alloc_old _ _ (by simp)).trans (heap_alloc_new w _)
  have hx1 : W0.heap[w.heap.size + 1]? = some (.cells #[.int .i64 0, .int .i64 0, .int .i64 0, .slice none 0 0, .int .u32 0, .slice none 0 0] 50 (0, 0)) := by rw [← hW0]; exact alloc_at _ _ _ (by simp)
  have hs0 : w.heap.size + 2 ≤ W0.heap.size := by rw [← hW0]; simp
  obtain ⟨c0, c1, c2, c3, c4, c5, _⟩ := box6 hx0
  have HH := Lib.hid (RdP.below H hb0)
  have HX0 := Lib.hid hx0
  have HX1 := Lib.hid hx1
  have HB0 := Lib.hid hb0
  have HS0 := Lib.hid hs0
  clear H hx0 hx1 hb0 hs0
  go_enter Tryz.func33, Tryz.ntmps33
  go_wp2_with fail
  refine (rIsPred_any (t : Int) (h : Int) r A c cs hist R rs rc _ HH.out.cnt hh).mono ?_
  rintro e W1 ⟨rfl, hb1⟩
  rw [HQ.out]
  have HH1 := Lib.hid (HH.out.below hb1)
  have HB1 := Lib.hid (HB0.out.trans (hb1.mono HB0.out.size))
  have HX11 := Lib.hid (belowBox hb1 HX1.out)
  have HS1 := Lib.hid (show w.heap.size + 2 ≤ W1.heap.size from Nat.le_trans HS0.out hb1.size)
  obtain ⟨d0, d1, d2, d3, d4, d5, _⟩ := box6 (belowBox hb1 HX0.out)
  clear c0 c1 c2 c3 c4 c5 hb1
  go_wp2_with fail
  refine (rtrain_any t h r A R c rc cs rs hist pc taken _ HH1.out.cnt (by omega) HN.out (by omega) ⟨hh.1, HH2.out⟩ hp HCS.out).mono ?_
  rintro e W2 ⟨g, c', rfl, hrd, hb2, hg⟩
  have HG := Lib.hid hg
  have HRD := Lib.hid hrd
  have HR2 := Lib.hid (show RdI W2 .u32 R rs.length rs from Rd.below HH1.out.ret hb2)
  have HB2 := Lib.hid (HB1.out.trans (hb2.mono HB1.out.size))
  have HX12 := Lib.hid (belowBox hb2 HX11.out)
  obtain ⟨s0, s1, s2, s3, s4, s5, s6⟩ := box6 HX12.out
  clear hrd hb2 hg d0 d1 d2 d3 d4 d5
  go_wp2_with fail
  (try simp only [Exit.inBlock, Exit.then])
  refine bodyPost_ret (v := .tuple #[.agg #[.int .i64 (t : Int), .int .i64 (h : Int), .int .i64 r, .slice (some ⟨g, 0, none⟩) cs.length c', .int .u32 (trainH h hist taken), .slice R rs.length rc], .int .i64 0]) (results_cell2 rfl rfl rfl (run_loadVar_row (P := Tryz.prog) _ _ 50 50 _ (0, 0) _ (set6_heap HX12.out _ _ _ _ _ _) Tryz.underlying50 rfl (by kernel_rfl))) rfl ?_
  refine ⟨_, rfl, ⟨some ⟨g, 0, none⟩, c', R, rc, by rw [HLC.out], fun W9 hu => ⟨?_, ?_⟩⟩, bset6 HB2.out (by omega) _ _ _ _ _ _⟩
  · rw [HLC.out]
    exact Rd.at1 (Rd.at1 HRD.out (uset6 W2 (w.heap.size + 1) _ _ _ _ _ _) (fun (e : g = w.heap.size + 1) => by have := HG.out; have := HB1.out.size; have := HS1.out; omega)) hu (fun e => by have := HG.out; have := HS1.out; omega)
  · exact Rd.old HRO.out (HBW.out.trans ((bset6 HB2.out (by omega) _ _ _ _ _ _).mono HBW.out.size)) hu (fun k hk e => by omega)
end Go.Proofs.YtdkacdfhapgboaaGreat

/- The specification's predictor: call, Call. -/
set_option linter.unusedVariables false
set_option linter.unusedSimpArgs false
namespace Go.Proofs.YtdkacdfhapgboaaGreat
open Go.RowKit

/-- An append onto a row of the call's own, whatever slice is read. -/
theorem app_any {P : Program} {W : World} {base : Nat} {t ty e : TypeId} {i : TypeInfo} {z : Value} {bytes : Nat} (ht : P.underlying t = some (.slice e)) (hi : P.info? e = some i) (hz : i.zero = some z) (hsize : i.size = 1) (hby : i.bytes = bytes) (hzs : z.cells.size = 1)
    {v : Value} {n : Nat} {xs : List Value} (hown : W.ownsRow base e 1 v n xs) {A : Option Addr} {m c : Nat} {news : List Value} (hr : Rd W A m 1 news) (h1 : ∀ u ∈ news, u.oneCell' = true)
    (h63 : n + m ≤ maxLen) (hbytes : (n + m) * bytes ≤ 140737488355328) (hbase : base ≤ W.heap.size) :
    ∃ v' W', (Builtin.append_ #[t, t] ty #[v, .slice A m c]).run P W = .ok v' W' ∧ W'.ownsRow base e 1 v' (n + m) (xs ++ news) ∧ W.grownBy W' v.ownBlock := by
  have hl := hr.len
  cases A with
  | none =>
    have hn : news = [] := by
      rcases news with _ | ⟨u, us⟩
      · rfl
      · obtain ⟨ad, e, _⟩ := hr.cell 0 (by simp)
        exact absurd e (by simp)
    subst hn
    obtain rfl : m = 0 := by simpa using hl.symm
    refine ⟨v, W, ?_, by simpa using hown, World.grownBy.refl W _⟩
    rcases hown.2 with ⟨rfl, rfl⟩ | ⟨g, cap, cur, rfl, _, _, hnc, _⟩
    · simp [Builtin.append_, run_underlying ht, sizeOf, typeInfo, hi, Builtin.lenOf, Builtin.firstCells]
    · simp [Builtin.append_, run_underlying ht, sizeOf, typeInfo, hi, Builtin.lenOf, Builtin.firstCells, hnc, storeCells]
  | some ad =>
    obtain ⟨v', W', hrun, h2, h3, _⟩ := run_append_own (P := P) W base t ty e i z 1 bytes ht hi hz hsize hby hzs (by omega) v n xs hown ad m c news hl (fun j u hu => by
      obtain ⟨hj, rfl⟩ := List.getElem?_eq_some_iff.1 hu
      obtain ⟨ad', e', hc⟩ := hr.cell j hj
      obtain rfl := Option.some.inj e'
      exact hc) h1 h63 hbytes hbase
    exact ⟨v', W', hrun, h2, h3⟩
theorem numsR_one (k : IntKind) (xs : List Int) : ∀ u ∈ nums k xs, u.oneCell' = true := by simp [nums, Value.oneCell']
theorem rd_one (W : World) (a : Int) : Rd (W.alloc (.cells #[.int .u32 a] 27)) (some ⟨W.heap.size, 0, none⟩) 1 1 (nums .u32 [a]) :=
  ⟨by simp, by omega, fun j hj => ⟨_, rfl, by
    have hj0 : j = 0 := by simpa using hj
    subst hj0
    have := heap_alloc_new W (.cells #[.int .u32 a] 27)
    rw [show ((⟨W.heap.size, 0, none⟩ : Addr).add 0) = ⟨W.heap.size, 0, none⟩ from rfl]
    simp only [World.cell?]
    rw [this]
    rfl⟩⟩
/-- What a list less its first place is, in an own row. -/
theorem own_tail {W : World} {base g c n : Nat} {xs : List Int} (h : W.ownsRow base 27 1 (.slice (some ⟨g, 0, none⟩) (n + 1) c) (n + 1) (nums .u32 xs)) : RdI W .u32 (some ⟨g, 1, none⟩) n (xs.drop 1) := by
  have hl : xs.length = n + 1 := by have := h.1; simpa using this
  have hle := (own_rdR h).le
  refine ⟨by simp [hl], by omega, fun j hj => ⟨_, rfl, ?_⟩⟩
  have hj' : j < n := by simpa [hl] using hj
  have hc := h.cellAt (j + 1) (by omega)
  have e1 : (⟨g, 1, none⟩ : Addr).add j = ⟨g, j + 1, none⟩ := by unfold Addr.add; split <;> simp_all <;> omega
  rw [e1, hc]
  simp [nums]
theorem own_cap {w : World} {base g c n sz : Nat} {e : TypeId} {cs : List Value} (h : w.ownsRow base e sz (.slice (some ⟨g, 0, none⟩) n c) n cs) : n ≤ c := by
  rcases h.2 with ⟨h', _⟩ | ⟨g', cap', cur, h', _, _, h1, _⟩
  · simp at h'
  · simp only [Value.slice.injEq, Option.some.injEq, Addr.mk.injEq, and_true, true_and] at h'
    obtain ⟨_, rfl⟩ := h'
    exact h1
theorem Rd.atO {F : Nat → Prop} {w1 w2 : World} {g o : Nat} {n sz : Nat} {cs : List Value} (h : Rd w1 (some ⟨g, o, none⟩) n sz cs) (hu : Upd F w1 w2) (hF : ¬ F g) : Rd w2 (some ⟨g, o, none⟩) n sz cs :=
  ⟨h.len, h.le, fun j hj => by
    obtain ⟨ad, e, hc⟩ := h.cell j hj
    refine ⟨ad, e, ?_⟩
    have e2 := Option.some.inj e
    have h1 : (ad.add j).block = g := by rw [← e2]; unfold Addr.add; split <;> rfl
    have hl := World.block_lt_of_cell? w1 _ hc
    rw [h1] at hl
    rw [← hc]
    simp only [World.cell?, h1, hu.block g hl hF]⟩
theorem rd_nil (W : World) (a : Option Addr) : RdI W .u32 a 0 [] := ⟨by simp [nums], by omega, fun j hj => absurd hj (by simp [nums])⟩

/-- What call hands back: the predictor with another list of returns, in a row of its own. -/
def RetR (t h r : Int) (A : Option Addr) (n c : Nat) (hist : Int) (L : List Int) (w : World) (v : Value) (w' : World) : Prop :=
  ∃ g o n' c', v = .agg #[.int .i64 t, .int .i64 h, .int .i64 r, .slice A n c, .int .u32 hist, .slice (some ⟨g, o, none⟩) n' c'] ∧ L.length = n' ∧ RdI w' .u32 (some ⟨g, o, none⟩) n' L ∧ Below w.heap.size w w' ∧ w.heap.size ≤ g
def RetE (t h r : Int) (A : Option Addr) (n c : Nat) (hist : Int) (L : List Int) (w : World) (e : Ending) (w' : World) : Prop := ∃ v, e = .returned v ∧ RetR t h r A n c hist L w v w'

attribute [local irreducible] World.setCell in
set_option maxRecDepth 100000 in
set_option maxHeartbeats 2000000 in
theorem rcall_any (t h r : Int) (A R : Option Addr) (c rc : Nat) (cs rs : List Int) (hist : Int) (a : Int) (w : World) (H : RdP w A c cs R rc rs) (hl : rs.length ≤ 1000) (hr : 0 ≤ r) :
    Calls Tryz.prog 76 #[.agg #[.int .i64 t, .int .i64 h, .int .i64 r, .slice A cs.length c, .int .u32 hist, .slice R rs.length rc], .int .u32 a] w (RetE t h r A cs.length c hist (callL r rs a) w) := by
  obtain ⟨W0, hW0⟩ : ∃ W0, (w.alloc (.cells #[.int .i64 t, .int .i64 h, .int .i64 r, .slice A cs.length c, .int .u32 hist, .slice R rs.length rc] 50)).alloc (.cells #[.int .i64 0, .int .i64 0, .int .i64 0, .slice none 0 0, .int .u32 0, .slice none 0 0] 50) = W0 := ⟨_, rfl⟩
  have hb0 : Below w.heap.size w W0 := by rw [← hW0]; exact ((Below.refl _ _).alloc (Nat.le_refl _) _).alloc (by simp) _
  have hx0 : W0.heap[w.heap.size]? = some (.cells #[.int .i64 t, .int .i64 h, .int .i64 r, .slice A cs.length c, .int .u32 hist, .slice R rs.length rc] 50 (0, 0)) := by rw [← hW0]; exact (heap_alloc_old _ _ (by simp)).trans (heap_alloc_new w _)
  have hx1 : W0.heap[w.heap.size + 1]? = some (.cells #[.int .i64 0, .int .i64 0, .int .i64 0, .slice none 0 0, .int .u32 0, .slice none 0 0] 50 (0, 0)) := by rw [← hW0]; exact alloc_at _ _ _ (by simp)
  have hs0 : w.heap.size + 2 ≤ W0.heap.size := by rw [← hW0]; simp
  obtain ⟨i0, hi0, hz0, hz1, hz2⟩ := info_parts info_u32
  -- the first append
  obtain ⟨W1, hW1⟩ : ∃ W, W0.alloc (.cells #[] 27) = W := ⟨_, rfl⟩
  have hb1 : Below W0.heap.size W0 W1 := by rw [← hW1]; exact balloc _ _
  have ho1 : W1.ownsRow W0.heap.size 27 1 (.slice (some ⟨W0.heap.size, 0, none⟩) 0 0) 0 [] := by rw [← hW1]; exact World.ownsRow_lit (base := W0.heap.size) (e := 27) (size := 1) W0 #[] 0 (Nat.le_refl _) (by decide) rfl
  have hr1 : RdI W1 .u32 R rs.length rs := Rd.below (Rd.below H.ret hb0) hb1
  obtain ⟨v2, W2, run2, ho2, hg2⟩ := app_any (P := Tryz.prog) (t := 28) (ty := 28) (c := rc) Tryz.underlying28 hi0 hz0 hz1 hz2 rfl ho1 hr1 (numsR_one _ _) (by unfold maxLen; omega) (by omega) hb1.size
  rw [Nat.zero_add, List.nil_append] at ho2
  have hb2 : Below W0.heap.size W0 W2 := hb1.trans ((Upd.of_grown hg2).below hb1.size fun k hk => by have e : W0.heap.size = k := Option.some.inj hk; omega)
  -- the second one
  obtain ⟨W3, hW3⟩ : ∃ W, W2.alloc (.cells #[.int .u32 a] 27) = W := ⟨_, rfl⟩
  have hb3 : Below W0.heap.size W0 W3 := by rw [← hW3]; exact hb2.alloc hb2.size _
  have ho3 : W3.ownsRow W0.heap.size 27 1 v2 rs.length (nums .u32 rs) := by rw [← hW3]; exact ho2.alloc _
  have hr3 : Rd W3 (some ⟨W2.heap.size, 0, none⟩) 1 1 (nums .u32 [a]) := by rw [← hW3]; exact rd_one W2 a
  obtain ⟨v4, W4, run4, ho4, hg4⟩ := app_any (P := Tryz.prog) (t := 28) (ty := 28) (c := 1) Tryz.underlying28 hi0 hz0 hz1 hz2 rfl ho3 hr3 (numsR_one _ _) (by unfold maxLen; omega) (by omega) hb3.size
  rw [← nums_append] at ho4
  have hb4 : Below W0.heap.size W0 W4 := hb3.trans ((Upd.of_grown hg4).below hb3.size fun k hk => (ho3.lt k hk).1)
  obtain ⟨g, c4, rfl⟩ := own_slice ho4 (by omega)
  have hg := ho4.lt g rfl
  obtain ⟨c0, c1, c2, c3, c4', c5, _⟩ := box6 (belowBox hb1 hx0)
  have hx04 := belowBox hb4 hx0
  have hx14 := belowBox hb4 hx1
  obtain ⟨d0, d1, d2, d3, d4, d5, d6⟩ := box6 hx04
  have HX0 := Lib.hid hx04
  have HX1 := Lib.hid hx14
  have HB4 := Lib.hid (hb0.trans (hb4.mono hb0.size))
  have HO4 := Lib.hid ho4
  have HG := Lib.hid hg
  have HS0 := Lib.hid hs0
  have hcl : (r < ((rs.length : Int) + 1) ∧ callL r rs a = (rs ++ [a]).drop 1) ∨ (¬ r < ((rs.length : Int) + 1) ∧ callL r rs a = rs ++ [a]) := by
    unfold callL
    rw [List.length_append, List.length_singleton]
    by_cases hc : r < ((rs.length : Int) + 1)
    · exact .inl ⟨hc, by rw [decide_eq_true (show r < ((rs.length + 1 : Nat) : Int) by omega)]⟩
    · exact .inr ⟨hc, by rw [decide_eq_false (show ¬ r < ((rs.length + 1 : Nat) : Int) by omega)]⟩
  clear H hx0 hx1 hx04 hx14 hb0 hb1 hb2 hb3 hb4 ho1 ho2 ho3 ho4 hr1 hr3 hg2 hg4 hg hs0 hi0 hz0 hz1 hz2
  have HW := Lib.hid (show w.heap.size + 2 ≤ g by have := HG.out; have := HS0.out; omega)
  rcases hcl with ⟨hc, hcl⟩ | ⟨hc, hcl⟩
  · rw [hcl]
    clear hcl
    have hcap := own_cap HO4.out
    have HTL := Lib.hid (own_tail HO4.out)
    by_cases hc1 : c4 = 1
    · subst hc1
      have hrs : rs.length = 0 := by omega
      have HRS := Lib.hid (show rs = [] from List.eq_nil_of_length_eq_zero hrs)
      clear hrs
      obtain ⟨W5, hW5⟩ : ∃ W, W4.setCell ⟨w.heap.size, 5, none⟩ (.slice (some ⟨g, 0, none⟩) 0 0) = W := ⟨_, rfl⟩
      have hu5 : Upd (fun k => k = w.heap.size) W4 W5 := by rw [← hW5]; exact Upd.setCell W4 ⟨w.heap.size, 5, none⟩ _
      have hx5 : W5.heap[w.heap.size]? = some (.cells #[.int .i64 t, .int .i64 h, .int .i64 r, .slice A cs.length c, .int .u32 hist, .slice (some ⟨g, 0, none⟩) 0 0] 50 (0, 0)) := by rw [← hW5]; exact set1_heap HX0.out 5 _
      have hx5b := (hu5.block (w.heap.size + 1) (Array.getElem?_eq_some_iff.1 HX1.out).1 (fun (e : w.heap.size + 1 = w.heap.size) => by omega)).trans HX1.out
      have HX5b := Lib.hid hx5b
      obtain ⟨e0, e1, e2, e3, e4, e5, e6⟩ := box6 hx5
      obtain ⟨g0, g1, g2, g3, g4, g5, g6⟩ := box6 hx5b
      have HB5 := Lib.hid (HB4.out.trans (hu5.below HB4.out.size fun k (e : k = w.heap.size) => by omega))
      have HU5 := Lib.hid hu5
      clear hu5 hx5 hx5b
      go_enter Tryz.func76, Tryz.ntmps76
      go_wp2_with (at_builtin; first | refine Lib.wpList_append_run _ rfl (.tmp 6) (.tmp 8) _ _ rfl _ _ rfl rfl _ _ run2 ?_ | refine Lib.wpList_append_run _ rfl (.tmp 9) (.tmp 11) _ _ rfl _ _ rfl rfl _ _ run4 ?_)
      (try simp only [Exit.inBlock, Exit.then])
      refine bodyPost_ret (v := .agg #[.int .i64 t, .int .i64 h, .int .i64 r, .slice A cs.length c, .int .u32 hist, .slice (some ⟨g, 0, none⟩) 0 0]) (results_cell1 rfl rfl (run_loadVar_row (P := Tryz.prog) _ _ 50 50 _ (0, 0) _ (set6_heap HX5b.out _ _ _ _ _ _) Tryz.underlying50 rfl (by kernel_rfl))) rfl ?_
      refine ⟨_, rfl, g, 0, 0, 0, rfl, ?_, ?_, bset6 HB5.out (by omega) _ _ _ _ _ _, by have := HW.out; omega⟩
      · rw [HRS.out]; rfl
      · rw [HRS.out]; exact rd_nil _ _
    · have hc2 : ¬ 1 = c4 := fun e => hc1 e.symm
      have hc3 : 1 ≤ c4 := by omega
      obtain ⟨W5, hW5⟩ : ∃ W, W4.setCell ⟨w.heap.size, 5, none⟩ (.slice (some ⟨g, 1, none⟩) rs.length (c4 - 1)) = W := ⟨_, rfl⟩
      have hu5 : Upd (fun k => k = w.heap.size) W4 W5 := by rw [← hW5]; exact Upd.setCell W4 ⟨w.heap.size, 5, none⟩ _
      have hx5 : W5.heap[w.heap.size]? = some (.cells #[.int .i64 t, .int .i64 h, .int .i64 r, .slice A cs.length c, .int .u32 hist, .slice (some ⟨g, 1, none⟩) rs.length (c4 - 1)] 50 (0, 0)) := by rw [← hW5]; exact set1_heap HX0.out 5 _
      have hx5b := (hu5.block (w.heap.size + 1) (Array.getElem?_eq_some_iff.1 HX1.out).1 (fun (e : w.heap.size + 1 = w.heap.size) => by omega)).trans HX1.out
      have HX5b := Lib.hid hx5b
      obtain ⟨e0, e1, e2, e3, e4, e5, e6⟩ := box6 hx5
      obtain ⟨g0, g1, g2, g3, g4, g5, g6⟩ := box6 hx5b
      have HB5 := Lib.hid (HB4.out.trans (hu5.below HB4.out.size fun k (e : k = w.heap.size) => by omega))
      have HU5 := Lib.hid hu5
      clear hu5 hx5 hx5b
      go_enter Tryz.func76, Tryz.ntmps76
      go_wp2_with (at_builtin; first | refine Lib.wpList_append_run _ rfl (.tmp 6) (.tmp 8) _ _ rfl _ _ rfl rfl _ _ run2 ?_ | refine Lib.wpList_append_run _ rfl (.tmp 9) (.tmp 11) _ _ rfl _ _ rfl rfl _ _ run4 ?_)
      (try simp only [Exit.inBlock, Exit.then])
      refine bodyPost_ret (v := .agg #[.int .i64 t, .int .i64 h, .int .i64 r, .slice A cs.length c, .int .u32 hist, .slice (some ⟨g, 1, none⟩) rs.length (c4 - 1)]) (results_cell1 rfl rfl (run_loadVar_row (P := Tryz.prog) _ _ 50 50 _ (0, 0) _ (set6_heap HX5b.out _ _ _ _ _ _) Tryz.underlying50 rfl (by kernel_rfl))) rfl ?_
      refine ⟨_, rfl, g, 1, rs.length, (c4 - 1), rfl, ?_, ?_, bset6 HB5.out (by omega) _ _ _ _ _ _, by have := HW.out; omega⟩
      · simp
      · exact Rd.atO HTL.out (((HU5.out.mono (G := fun k => k = w.heap.size ∨ k = w.heap.size + 1) fun k h => .inl h)).trans ((uset6 W5 (w.heap.size + 1) _ _ _ _ _ _).mono (G := fun k => k = w.heap.size ∨ k = w.heap.size + 1) fun k h => .inr h) fun k h => .inl h) (by have := HW.out; omega)
  · rw [hcl]
    clear hcl
    obtain ⟨W5, hW5⟩ : ∃ W, W4.setCell ⟨w.heap.size, 5, none⟩ (.slice (some ⟨g, 0, none⟩) (rs.length + 1) c4) = W := ⟨_, rfl⟩
    have hu5 : Upd (fun k => k = w.heap.size) W4 W5 := by rw [← hW5]; exact Upd.setCell W4 ⟨w.heap.size, 5, none⟩ _
    have hx5 : W5.heap[w.heap.size]? = some (.cells #[.int .i64 t, .int .i64 h, .int .i64 r, .slice A cs.length c, .int .u32 hist, .slice (some ⟨g, 0, none⟩) (rs.length + 1) c4] 50 (0, 0)) := by rw [← hW5]; exact set1_heap HX0.out 5 _
    have hx5b := (hu5.block (w.heap.size + 1) (Array.getElem?_eq_some_iff.1 HX1.out).1 (fun (e : w.heap.size + 1 = w.heap.size) => by omega)).trans HX1.out
    have HX5b := Lib.hid hx5b
    obtain ⟨e0, e1, e2, e3, e4, e5, e6⟩ := box6 hx5
    obtain ⟨g0, g1, g2, g3, g4, g5, g6⟩ := box6 hx5b
    have HB5 := Lib.hid (HB4.out.trans (hu5.below HB4.out.size fun k (e : k = w.heap.size) => by omega))
    have HU5 := Lib.hid hu5
    clear hu5 hx5 hx5b
    go_enter Tryz.func76, Tryz.ntmps76
    go_wp2_with (at_builtin; first | refine Lib.wpList_append_run _ rfl (.tmp 6) (.tmp 8) _ _ rfl _ _ rfl rfl _ _ run2 ?_ | refine Lib.wpList_append_run _ rfl (.tmp 9) (.tmp 11) _ _ rfl _ _ rfl rfl _ _ run4 ?_)
    (try simp only [Exit.inBlock, Exit.then])
    refine bodyPost_ret (v := .agg #[.int .i64 t, .int .i64 h, .int .i64 r, .slice A cs.length c, .int .u32 hist, .slice (some ⟨g, 0, none⟩) (rs.length + 1) c4]) (results_cell1 rfl rfl (run_loadVar_row (P := Tryz.prog) _ _ 50 50 _ (0, 0) _ (set6_heap HX5b.out _ _ _ _ _ _) Tryz.underlying50 rfl (by kernel_rfl))) rfl ?_
    refine ⟨_, rfl, g, 0, (rs.length + 1), c4, rfl, ?_, ?_, bset6 HB5.out (by omega) _ _ _ _ _ _, by have := HW.out; omega⟩
    · simp
    · exact Rd.at1 (own_rdR HO4.out) (((HU5.out.mono (G := fun k => k = w.heap.size ∨ k = w.heap.size + 1) fun k h => .inl h)).trans ((uset6 W5 (w.heap.size + 1) _ _ _ _ _ _).mono (G := fun k => k = w.heap.size ∨ k = w.heap.size + 1) fun k h => .inr h) fun k h => .inl h) (by have := HW.out; omega)
end Go.Proofs.YtdkacdfhapgboaaGreat

/- The specification's predictor: Call, back, Return. -/
set_option linter.unusedVariables false
set_option linter.unusedSimpArgs false
namespace Go.Proofs.YtdkacdfhapgboaaGreat
open Go.RowKit

attribute [local irreducible] World.setCell in
set_option maxRecDepth 100000 in
set_option maxHeartbeats 1000000 in
theorem rCall_ok (t h r : Int) (A R : Option Addr) (c rc : Nat) (cs rs : List Int) (hist : Int) (a : Int) (w0 w : World) (HO : RdP w0 A c cs R rc rs) (hbw : Below w0.heap.size w0 w) (hq : predOk t h r cs hist rs) (hh : 0 ≤ hist ∧ hist < 4294967296) :
    Calls Tryz.prog 35 #[.agg #[.int .i64 t, .int .i64 h, .int .i64 r, .slice A cs.length c, .int .u32 hist, .slice R rs.length rc], .int .u32 a] w fun e w' =>
      ∃ u, e = .returned (.tuple #[u, .int .i64 0]) ∧ PredR u t h r cs hist (callL r rs a) (fun k => w0.heap.size ≤ k ∧ k < w.heap.size) w' ∧ Below w.heap.size w w' := by
  have H := HO.below hbw
  have HQ := Lib.hid (decide_eq_true hq)
  have hl3 := (predOk_len hq).2.2
  have hr0 : 0 ≤ r := by have := hq.2.2.2.2; omega
  have HRO := Lib.hid HO.cnt
  have HBW := Lib.hid hbw
  clear hq HO hbw
  obtain ⟨W0, hW0⟩ : ∃ W0, (w.alloc (.cells #[.int .i64 t, .int .i64 h, .int .i64 r, .slice A cs.length c, .int .u32 hist, .slice R rs.length rc] 50)).alloc (.cells #[.int .i64 0, .int .i64 0, .int .i64 0, .slice none 0 0, .int .u32 0, .slice none 0 0] 50) = W0 := ⟨_, rfl⟩
  have hb0 : Below w.heap.size w W0 := by rw [← hW0]; exact ((Below.refl _ _).alloc (Nat.le_refl _) _).alloc (by simp) _
  have hx0 : W0.heap[w.heap.size]? = some (.cells #[.int .i64 t, .int .i64 h, .int .i64 r, .slice A cs.length c, .int .u32 hist, .slice R rs.length rc] 50 (0, 0)) := by rw [← hW0]; exact (heap_alloc_old _ _ (by simp)).trans (heap_alloc_new w _)
  have hx1 : W0.heap[w.heap.size + 1]? = some (.cells #[.int .i64 0, .int .i64 0, .int .i64 0, .slice none 0 0, .int .u32 0, .slice none 0 0] 50 (0, 0)) := by rw [← hW0]; exact alloc_at _ _ _ (by simp)
  have hs0 : w.heap.size + 2 ≤ W0.heap.size := by rw [← hW0]; simp
  obtain ⟨c0, c1, c2, c3, c4, c5, _⟩ := box6 hx0
  have HH := Lib.hid (RdP.below H hb0)
  have HX0 := Lib.hid hx0
  have HX1 := Lib.hid hx1
  have HB0 := Lib.hid hb0
  have HS0 := Lib.hid hs0
  clear H hx0 hx1 hb0 hs0
  go_enter Tryz.func35, Tryz.ntmps35
  go_wp2_with fail
  refine (rIsPred_any t h r A c cs hist R rs rc _ HH.out.cnt hh).mono ?_
  rintro e W1 ⟨rfl, hb1⟩
  rw [HQ.out]
  have HH1 := Lib.hid (HH.out.below hb1)
  have HB1 := Lib.hid (HB0.out.trans (hb1.mono HB0.out.size))
  have HX11 := Lib.hid (belowBox hb1 HX1.out)
  have HS1 := Lib.hid (show w.heap.size + 2 ≤ W1.heap.size from Nat.le_trans HS0.out hb1.size)
  obtain ⟨d0, d1, d2, d3, d4, d5, _⟩ := box6 (belowBox hb1 HX0.out)
  clear c0 c1 c2 c3 c4 c5 hb1
  go_wp2_with fail
  refine (rcall_any t h r A R c rc cs rs hist a _ HH1.out (by omega) hr0).mono ?_
  rintro e W2 ⟨v, rfl, g, o, n', c', rfl, hlen, hrd, hb2, hg⟩
  have HLEN := Lib.hid hlen
  have HRD := Lib.hid hrd
  have HG := Lib.hid hg
  have HB2 := Lib.hid (HB1.out.trans (hb2.mono HB1.out.size))
  have HX12 := Lib.hid (belowBox hb2 HX11.out)
  obtain ⟨s0, s1, s2, s3, s4, s5, s6⟩ := box6 HX12.out
  clear hrd hb2 hg hlen d0 d1 d2 d3 d4 d5
  go_wp2_with fail
  (try simp only [Exit.inBlock, Exit.then])
  refine bodyPost_ret (v := .tuple #[.agg #[.int .i64 t, .int .i64 h, .int .i64 r, .slice A cs.length c, .int .u32 hist, .slice (some ⟨g, o, none⟩) n' c'], .int .i64 0]) (results_cell2 rfl rfl rfl (run_loadVar_row (P := Tryz.prog) _ _ 50 50 _ (0, 0) _ (set6_heap HX12.out _ _ _ _ _ _) Tryz.underlying50 rfl (by kernel_rfl))) rfl ?_
  refine ⟨_, rfl, ⟨A, c, some ⟨g, o, none⟩, c', by rw [HLEN.out], fun W9 hu => ⟨?_, ?_⟩⟩, bset6 HB2.out (by omega) _ _ _ _ _ _⟩
  · exact Rd.old HRO.out (HBW.out.trans ((bset6 HB2.out (by omega) _ _ _ _ _ _).mono HBW.out.size)) hu (fun k hk e => by omega)
  · rw [HLEN.out]
    exact Rd.atO (Rd.atO HRD.out (uset6 W2 (w.heap.size + 1) _ _ _ _ _ _) (fun (e : g = w.heap.size + 1) => by have := HG.out; have := HS1.out; omega)) hu (fun e => by have := HG.out; have := HS1.out; omega)
end Go.Proofs.YtdkacdfhapgboaaGreat

/- The specification's predictor: back, Return. -/
set_option linter.unusedVariables false
set_option linter.unusedSimpArgs false
namespace Go.Proofs.YtdkacdfhapgboaaGreat
open Go.RowKit

theorem box7 {w : World} {b : Nat} {a0 a1 a2 a3 a4 a5 a6 : Value} {t : TypeId} (h : w.heap[b]? = some (.cells #[a0, a1, a2, a3, a4, a5, a6] t (0, 0))) :
    w.cell? ⟨b, 0, none⟩ = some a0 ∧ w.cell? ⟨b, 1, none⟩ = some a1 ∧ w.cell? ⟨b, 2, none⟩ = some a2 ∧ w.cell? ⟨b, 3, none⟩ = some a3 ∧ w.cell? ⟨b, 4, none⟩ = some a4 ∧ w.cell? ⟨b, 5, none⟩ = some a5 ∧ w.cell? ⟨b, 6, none⟩ = some a6 ∧ (∀ o, w.frozen? ⟨b, o, none⟩ = false) := by
  refine ⟨?_, ?_, ?_, ?_, ?_, ?_, ?_, fun o => ?_⟩ <;> simp [World.cell?, World.frozen?, h]
attribute [local irreducible] World.setCell in
theorem set7_heap {W : World} {b : Nat} {a0 a1 a2 a3 a4 a5 a6 : Value} {t : TypeId} (h : W.heap[b]? = some (.cells #[a0, a1, a2, a3, a4, a5, a6] t (0, 0))) (v0 v1 v2 v3 v4 v5 v6 : Value) :
    (((((((W.setCell ⟨b, 0, none⟩ v0).setCell ⟨b, 1, none⟩ v1).setCell ⟨b, 2, none⟩ v2).setCell ⟨b, 3, none⟩ v3).setCell ⟨b, 4, none⟩ v4).setCell ⟨b, 5, none⟩ v5).setCell ⟨b, 6, none⟩ v6).heap[b]? = some (.cells #[v0, v1, v2, v3, v4, v5, v6] t (0, 0)) := by
  have h0 : (W.setCell ⟨b, 0, none⟩ v0).heap[b]? = some (.cells #[v0, a1, a2, a3, a4, a5, a6] t (0, 0)) := set1_heap h 0 v0
  have h1 : ((W.setCell ⟨b, 0, none⟩ v0).setCell ⟨b, 1, none⟩ v1).heap[b]? = some (.cells #[v0, v1, a2, a3, a4, a5, a6] t (0, 0)) := set1_heap h0 1 v1
  have h2 : (((W.setCell ⟨b, 0, none⟩ v0).setCell ⟨b, 1, none⟩ v1).setCell ⟨b, 2, none⟩ v2).heap[b]? = some (.cells #[v0, v1, v2, a3, a4, a5, a6] t (0, 0)) := set1_heap h1 2 v2
  have h3 : ((((W.setCell ⟨b, 0, none⟩ v0).setCell ⟨b, 1, none⟩ v1).setCell ⟨b, 2, none⟩ v2).setCell ⟨b, 3, none⟩ v3).heap[b]? = some (.cells #[v0, v1, v2, v3, a4, a5, a6] t (0, 0)) := set1_heap h2 3 v3
  have h4 : (((((W.setCell ⟨b, 0, none⟩ v0).setCell ⟨b, 1, none⟩ v1).setCell ⟨b, 2, none⟩ v2).setCell ⟨b, 3, none⟩ v3).setCell ⟨b, 4, none⟩ v4).heap[b]? = some (.cells #[v0, v1, v2, v3, v4, a5, a6] t (0, 0)) := set1_heap h3 4 v4
  have h5 : ((((((W.setCell ⟨b, 0, none⟩ v0).setCell ⟨b, 1, none⟩ v1).setCell ⟨b, 2, none⟩ v2).setCell ⟨b, 3, none⟩ v3).setCell ⟨b, 4, none⟩ v4).setCell ⟨b, 5, none⟩ v5).heap[b]? = some (.cells #[v0, v1, v2, v3, v4, v5, a6] t (0, 0)) := set1_heap h4 5 v5
  have h6 : (((((((W.setCell ⟨b, 0, none⟩ v0).setCell ⟨b, 1, none⟩ v1).setCell ⟨b, 2, none⟩ v2).setCell ⟨b, 3, none⟩ v3).setCell ⟨b, 4, none⟩ v4).setCell ⟨b, 5, none⟩ v5).setCell ⟨b, 6, none⟩ v6).heap[b]? = some (.cells #[v0, v1, v2, v3, v4, v5, v6] t (0, 0)) := set1_heap h5 6 v6
  exact h6
theorem uset7 (W : World) (b : Nat) (v0 v1 v2 v3 v4 v5 v6 : Value) : Upd (fun k => k = b) W (((((((W.setCell ⟨b, 0, none⟩ v0).setCell ⟨b, 1, none⟩ v1).setCell ⟨b, 2, none⟩ v2).setCell ⟨b, 3, none⟩ v3).setCell ⟨b, 4, none⟩ v4).setCell ⟨b, 5, none⟩ v5).setCell ⟨b, 6, none⟩ v6) :=
  (((((((Upd.refl (fun k => k = b) W).set rfl 0 v0).set rfl 1 v1).set rfl 2 v2).set rfl 3 v3).set rfl 4 v4).set rfl 5 v5).set rfl 6 v6
/-- What back hands back: the predictor with the list less its last place; its places stay whatever is written into blocks from B to n. -/
def BackE (t h r : Int) (A : Option Addr) (n c : Nat) (hist : Int) (L : List Int) (b : Bool) (B : Nat) (w : World) (e : Ending) (w' : World) : Prop :=
  ∃ R' n' c', e = .returned (.agg #[.int .i64 t, .int .i64 h, .int .i64 r, .slice A n c, .int .u32 hist, .slice R' n' c', .bool b]) ∧ L.length = n' ∧ (∀ W2, Upd (fun k => B ≤ k ∧ k < w.heap.size) w' W2 → RdI W2 .u32 R' n' L) ∧ Below w.heap.size w w'

attribute [local irreducible] World.setCell in
set_option maxRecDepth 100000 in
set_option maxHeartbeats 2000000 in
theorem rback_any (t h r : Int) (A R : Option Addr) (c rc : Nat) (cs rs : List Int) (hist : Int) (a : Int) (w0 w : World) (n : Nat) (hn : rs.length = n) (H0 : RdI w0 .u32 R n rs) (hbw : Below w0.heap.size w0 w) (hcap : n ≤ rc) (hl : n ≤ 1000) :
    Calls Tryz.prog 79 #[.agg #[.int .i64 t, .int .i64 h, .int .i64 r, .slice A cs.length c, .int .u32 hist, .slice R n rc], .int .u32 a] w (BackE t h r A cs.length c hist rs.dropLast (retB rs a) w0.heap.size w) := by
  obtain ⟨W0, hW0⟩ : ∃ W0, (w.alloc (.cells #[.int .i64 t, .int .i64 h, .int .i64 r, .slice A cs.length c, .int .u32 hist, .slice R n rc] 50)).alloc (.cells #[.int .i64 0, .int .i64 0, .int .i64 0, .slice none 0 0, .int .u32 0, .slice none 0 0, .bool false] 110) = W0 := ⟨_, rfl⟩
  have hb0 : Below w.heap.size w W0 := by rw [← hW0]; exact ((Below.refl _ _).alloc (Nat.le_refl _) _).alloc (by simp) _
  have hx0 : W0.heap[w.heap.size]? = some (.cells #[.int .i64 t, .int .i64 h, .int .i64 r, .slice A cs.length c, .int .u32 hist, .slice R n rc] 50 (0, 0)) := by rw [← hW0]; exact (heap_alloc_old _ _ (by simp)).trans (heap_alloc_new w _)
  have hx1 : W0.heap[w.heap.size + 1]? = some (.cells #[.int .i64 0, .int .i64 0, .int .i64 0, .slice none 0 0, .int .u32 0, .slice none 0 0, .bool false] 110 (0, 0)) := by rw [← hW0]; exact alloc_at _ _ _ (by simp)
  have hs0 : w.heap.size + 2 ≤ W0.heap.size := by rw [← hW0]; simp
  have HR0 := Lib.hid H0
  have HBW := Lib.hid hbw
  have hrd0 : RdI W0 .u32 R n rs := Rd.below (Rd.below H0 hbw) hb0
  obtain ⟨c0, c1, c2, c3, c4, c5, _⟩ := box6 hx0
  obtain ⟨k0, k1, k2, k3, k4, k5, k6, k7⟩ := box7 hx1
  have HX0 := Lib.hid hx0
  have HX1 := Lib.hid hx1
  have HB0 := Lib.hid hb0
  have HS0 := Lib.hid hs0
  have HRD := Lib.hid hrd0
  clear H0 hbw hx0 hx1 hb0 hs0 hrd0
  rcases Nat.eq_zero_or_pos n with hz | hz
  · subst hz
    obtain rfl : rs = [] := List.eq_nil_of_length_eq_zero hn
    clear hn hl
    go_enter Tryz.func79, Tryz.ntmps79
    go_wp2_with fail
    (try simp only [Exit.inBlock, Exit.then])
    refine bodyPost_ret (v := .agg #[.int .i64 t, .int .i64 h, .int .i64 r, .slice A cs.length c, .int .u32 hist, .slice R 0 rc, .bool false]) (results_cell1 rfl rfl (run_loadVar_row (P := Tryz.prog) _ _ 110 110 _ (0, 0) _ (set7_heap HX1.out _ _ _ _ _ _ _) Tryz.underlying110 rfl (by kernel_rfl))) rfl ?_
    exact ⟨R, 0, rc, rfl, rfl, fun W2 _ => rd_nil _ _, HB0.out.trans ((uset7 W0 (w.heap.size + 1) _ _ _ _ _ _ _).below (by have := HS0.out; omega) fun k (e : k = w.heap.size + 1) => by omega)⟩
  · obtain ⟨m, rfl⟩ : ∃ m, n = m + 1 := ⟨n - 1, by omega⟩
    have hm := hn
    clear hz
    obtain ⟨ad, hR, hx⟩ := HRD.out.at m (by omega)
    subst hR
    obtain ⟨x, hxx⟩ : ∃ x, gi rs m = x := ⟨_, rfl⟩
    rw [hxx] at hx
    have hdl : rs.dropLast = rs.take m := by rw [List.dropLast_eq_take, hm]; rfl
    have hrb : retB rs a = (x == a) := by unfold retB; rw [hm]; simp only []; rw [hxx]
    have htl : (rs.take m).length = m := by rw [List.length_take]; omega
    have HDL := Lib.hid hdl
    have HTL := Lib.hid htl
    obtain ⟨i0, hi0, hz0, hz1, hz2⟩ := info_parts info_u32
    obtain ⟨W1, hW1⟩ : ∃ W, W0.alloc (.cells #[] 27) = W := ⟨_, rfl⟩
    have hb1 : Below W0.heap.size W0 W1 := by rw [← hW1]; exact balloc _ _
    have ho1 : W1.ownsRow W0.heap.size 27 1 (.slice (some ⟨W0.heap.size, 0, none⟩) 0 0) 0 [] := by rw [← hW1]; exact World.ownsRow_lit (base := W0.heap.size) (e := 27) (size := 1) W0 #[] 0 (Nat.le_refl _) (by decide) rfl
    have hr1 : RdI W1 .u32 (some ad) m (rs.take m) := RdI.take (Rd.below HRD.out hb1) m (by omega)
    obtain ⟨v2, W2, run2, ho2, hg2⟩ := app_any (P := Tryz.prog) (t := 28) (ty := 28) (c := rc) Tryz.underlying28 hi0 hz0 hz1 hz2 rfl ho1 hr1 (numsR_one _ _) (by unfold maxLen; omega) (by omega) hb1.size
    rw [Nat.zero_add, List.nil_append] at ho2
    have hb2 : Below W0.heap.size W0 W2 := hb1.trans ((Upd.of_grown hg2).below hb1.size fun k hk => by have e : W0.heap.size = k := Option.some.inj hk; omega)
    have hx02 := belowBox hb2 HX0.out
    have hx12 := belowBox hb2 HX1.out
    obtain ⟨d0, d1, d2, d3, d4, d5, _⟩ := box6 (belowBox hb1 HX0.out)
    obtain ⟨p0, p1, p2, p3, p4, p5, p6⟩ := box6 hx02
    obtain ⟨W3, hW3⟩ : ∃ W, W2.setCell ⟨w.heap.size, 5, none⟩ v2 = W := ⟨_, rfl⟩
    obtain ⟨A2, cc2, hv2, hrd2⟩ := own_rd ho2
    subst hv2
    have hu3 : Upd (fun k => k = w.heap.size) W2 W3 := by rw [← hW3]; exact Upd.setCell W2 ⟨w.heap.size, 5, none⟩ _
    have hx3 : W3.heap[w.heap.size]? = some (.cells #[.int .i64 t, .int .i64 h, .int .i64 r, .slice A cs.length c, .int .u32 hist, .slice A2 m cc2] 50 (0, 0)) := by rw [← hW3]; exact set1_heap hx02 5 _
    have hx3b := (hu3.block (w.heap.size + 1) (Array.getElem?_eq_some_iff.1 hx12).1 (fun (e : w.heap.size + 1 = w.heap.size) => by omega)).trans hx12
    obtain ⟨e0, e1, e2, e3, e4, e5, e6⟩ := box6 hx3
    obtain ⟨g0, g1, g2, g3, g4, g5, g6, g7⟩ := box7 hx3b
    have HX3b := Lib.hid hx3b
    have hb3 : Below w.heap.size w W3 := (HB0.out.trans (hb2.mono HB0.out.size)).trans (hu3.below (by have := HB0.out.size; have := hb2.size; omega) fun k (e : k = w.heap.size) => by omega)
    have HB3 := Lib.hid hb3
    have HO3 := Lib.hid (own_upd ho2 hu3 fun k hk (e : k = w.heap.size) => by have := (ho2.lt k hk).1; have := HS0.out; omega)
    have hx1c := bkeep hb1 hx
    rw [hrb, hdl]
    clear hrb hdl htl ho1 ho2 hr1 hg2 hb1 hb2 hx02 hx12 hu3 hx3 hx3b hb3 hrd2 hxx hi0 hz0 hz1 hz2
    have HM := Lib.hid hm
    clear hm hn
    cases hb : (x == a)
    all_goals
      go_enter Tryz.func79, Tryz.ntmps79
      go_wp2_with (at_builtin; refine Lib.wpList_append_run _ rfl (.tmp 22) (.tmp 27) _ _ rfl _ _ rfl rfl _ _ run2 ?_)
      (try simp only [Exit.inBlock, Exit.then])
      refine bodyPost_ret (v := .agg #[.int .i64 t, .int .i64 h, .int .i64 r, .slice A cs.length c, .int .u32 hist, .slice A2 m cc2, .bool _]) (results_cell1 rfl rfl (run_loadVar_row (P := Tryz.prog) _ _ 110 110 _ (0, 0) _ (set7_heap HX3b.out _ _ _ _ _ _ _) Tryz.underlying110 rfl (by kernel_rfl))) rfl ?_
      refine ⟨A2, m, cc2, rfl, HTL.out, fun W9 hu => ?_, HB3.out.trans ((uset7 W3 (w.heap.size + 1) _ _ _ _ _ _ _).below (by have := HB3.out.size; omega) fun k (e : k = w.heap.size + 1) => by omega)⟩
      exact own_rdR (own_upd (own_upd HO3.out (uset7 W3 (w.heap.size + 1) _ _ _ _ _ _ _) fun k hk (e : k = w.heap.size + 1) => by have := (HO3.out.lt k hk).1; have := HS0.out; omega) hu fun k hk (e : w0.heap.size ≤ k ∧ k < w.heap.size) => by have := (HO3.out.lt k hk).1; have := HS0.out; omega)
end Go.Proofs.YtdkacdfhapgboaaGreat

/- The specification's predictor: Return. -/
set_option linter.unusedVariables false
set_option linter.unusedSimpArgs false
namespace Go.Proofs.YtdkacdfhapgboaaGreat
open Go.RowKit

attribute [local irreducible] World.setCell in
set_option maxRecDepth 100000 in
set_option maxHeartbeats 1000000 in
theorem rReturn_bad (t h r : Int) (A R : Option Addr) (c rc : Nat) (cs rs : List Int) (hist : Int) (pc : Int) (w : World) (H : RdP w A c cs R rc rs) (hq : ¬ predOk t h r cs hist rs) (hh : 0 ≤ hist ∧ hist < 4294967296) :
    Calls Tryz.prog 37 #[.agg #[.int .i64 t, .int .i64 h, .int .i64 r, .slice A cs.length c, .int .u32 hist, .slice R rs.length rc], .int .u32 pc] w fun e w' => e = .returned (.tuple #[emptyP, .bool false, .int .i64 330]) ∧ Below w.heap.size w w' := by
  have HQ := Lib.hid (decide_eq_false hq)
  clear hq
  obtain ⟨W0, hW0⟩ : ∃ W0, (w.alloc (.cells #[.int .i64 t, .int .i64 h, .int .i64 r, .slice A cs.length c, .int .u32 hist, .slice R rs.length rc] 50)).alloc (.cells #[.int .i64 0, .int .i64 0, .int .i64 0, .slice none 0 0, .int .u32 0, .slice none 0 0] 50) = W0 := ⟨_, rfl⟩
  have hb0 : Below w.heap.size w W0 := by rw [← hW0]; exact ((Below.refl _ _).alloc (Nat.le_refl _) _).alloc (by simp) _
  have hx0 : W0.heap[w.heap.size]? = some (.cells #[.int .i64 t, .int .i64 h, .int .i64 r, .slice A cs.length c, .int .u32 hist, .slice R rs.length rc] 50 (0, 0)) := by rw [← hW0]; exact (heap_alloc_old _ _ (by simp)).trans (heap_alloc_new w _)
  have hx1 : W0.heap[w.heap.size + 1]? = some (.cells #[.int .i64 0, .int .i64 0, .int .i64 0, .slice none 0 0, .int .u32 0, .slice none 0 0] 50 (0, 0)) := by rw [← hW0]; exact alloc_at _ _ _ (by simp)
  have hs0 : w.heap.size + 2 ≤ W0.heap.size := by rw [← hW0]; simp
  obtain ⟨c0, c1, c2, c3, c4, c5, _⟩ := box6 hx0
  have HH := Lib.hid (RdP.below H hb0)
  have HX0 := Lib.hid hx0
  have HX1 := Lib.hid hx1
  have HB0 := Lib.hid hb0
  have HS0 := Lib.hid hs0
  clear H hx0 hx1 hb0 hs0
  go_enter Tryz.func37, Tryz.ntmps37
  go_wp2_with fail
  refine (rIsPred_any t h r A c cs hist R rs rc _ HH.out.cnt hh).mono ?_
  rintro e W ⟨rfl, hb⟩
  rw [HQ.out]
  have HB := Lib.hid (belowBox hb HX1.out)
  obtain ⟨s0, s1, s2, s3, s4, s5, d0⟩ := box6 HB.out
  have HBW := Lib.hid (HB0.out.trans (hb.mono HB0.out.size))
  clear hb
  go_wp2_with fail
  (try simp only [Exit.inBlock, Exit.then])
  refine bodyPost_ret (v := .tuple #[emptyP, .bool false, .int .i64 330]) (results_cell3 rfl rfl rfl rfl (run_loadVar_row (P := Tryz.prog) _ _ 50 50 _ (0, 0) _ (set6_heap HB.out _ _ _ _ _ _) Tryz.underlying50 rfl (by kernel_rfl))) rfl ?_
  exact ⟨rfl, bset6 HBW.out (by omega) _ _ _ _ _ _⟩

attribute [local irreducible] World.setCell in
set_option maxRecDepth 100000 in
set_option maxHeartbeats 2000000 in
theorem rReturn_ok (t h r : Int) (A R : Option Addr) (c rc : Nat) (cs rs : List Int) (hist : Int) (a : Int) (w0 w : World) (HO : RdP w0 A c cs R rc rs) (hbw : Below w0.heap.size w0 w) (hq : predOk t h r cs hist rs) (hh : 0 ≤ hist ∧ hist < 4294967296) :
    Calls Tryz.prog 37 #[.agg #[.int .i64 t, .int .i64 h, .int .i64 r, .slice A cs.length c, .int .u32 hist, .slice R rs.length rc], .int .u32 a] w fun e w' =>
      ∃ u, e = .returned (.tuple #[u, .bool (retB rs a), .int .i64 0]) ∧ PredR u t h r cs hist rs.dropLast (fun k => w0.heap.size ≤ k ∧ k < w.heap.size) w' ∧ Below w.heap.size w w' := by
  have H := HO.below hbw
  have HQ := Lib.hid (decide_eq_true hq)
  have hl3 := (predOk_len hq).2.2
  have HRO := Lib.hid HO.cnt
  have HRR := Lib.hid HO.ret
  have HBW := Lib.hid hbw
  have hrc := H.rcap
  clear hq HO hbw
  obtain ⟨W0, hW0⟩ : ∃ W0, (w.alloc (.cells #[.int .i64 t, .int .i64 h, .int .i64 r, .slice A cs.length c, .int .u32 hist, .slice R rs.length rc] 50)).alloc (.cells #[.int .i64 0, .int .i64 0, .int .i64 0, .slice none 0 0, .int .u32 0, .slice none 0 0] 50) = W0 := ⟨_, rfl⟩
  have hb0 : Below w.heap.size w W0 := by rw [← hW0]; exact ((Below.refl _ _).alloc (Nat.le_refl _) _).alloc (by simp) _
  have hx0 : W0.heap[w.heap.size]? = some (.cells #[.int .i64 t, .int .i64 h, .int .i64 r, .slice A cs.length c, .int .u32 hist, .slice R rs.length rc] 50 (0, 0)) := by rw [← hW0]; exact (heap_alloc_old _ _ (by simp)).trans (heap_alloc_new w _)
  have hx1 : W0.heap[w.heap.size + 1]? = some (.cells #[.int .i64 0, .int .i64 0, .int .i64 0, .slice none 0 0, .int .u32 0, .slice none 0 0] 50 (0, 0)) := by rw [← hW0]; exact alloc_at _ _ _ (by simp)
  have hs0 : w.heap.size + 2 ≤ W0.heap.size := by rw [← hW0]; simp
  obtain ⟨c0, c1, c2, c3, c4, c5, _⟩ := box6 hx0
  have HH := Lib.hid (RdP.below H hb0)
  have HX0 := Lib.hid hx0
  have HX1 := Lib.hid hx1
  have HB0 := Lib.hid hb0
  have HS0 := Lib.hid hs0
  clear H hx0 hx1 hb0 hs0
  go_enter Tryz.func37, Tryz.ntmps37
  go_wp2_with fail
  refine (rIsPred_any t h r A c cs hist R rs rc _ HH.out.cnt hh).mono ?_
  rintro e W1 ⟨rfl, hb1⟩
  rw [HQ.out]
  have HB1 := Lib.hid (HB0.out.trans (hb1.mono HB0.out.size))
  have HX11 := Lib.hid (belowBox hb1 HX1.out)
  have HS1 := Lib.hid (show w.heap.size + 2 ≤ W1.heap.size from Nat.le_trans HS0.out hb1.size)
  obtain ⟨d0, d1, d2, d3, d4, d5, _⟩ := box6 (belowBox hb1 HX0.out)
  clear c0 c1 c2 c3 c4 c5 hb1
  go_wp2_with fail
  refine (rback_any t h r A R c rc cs rs hist a w0 _ rs.length rfl HRR.out (HBW.out.trans (HB1.out.mono HBW.out.size)) hrc (by omega)).mono ?_
  rintro e W2 ⟨R', n', c', rfl, hlen, hrd, hb2⟩
  obtain ⟨W3, hW3⟩ : ∃ W, W2.alloc (.cells #[.int .i64 t, .int .i64 h, .int .i64 r, .slice A cs.length c, .int .u32 hist, .slice R' n' c', .bool (retB rs a)] 110) = W := ⟨_, rfl⟩
  have hb3 : Below W2.heap.size W2 W3 := by rw [← hW3]; exact balloc _ _
  have hx3 : W3.heap[W2.heap.size]? = some (.cells #[.int .i64 t, .int .i64 h, .int .i64 r, .slice A cs.length c, .int .u32 hist, .slice R' n' c', .bool (retB rs a)] 110 (0, 0)) := by rw [← hW3]; exact heap_alloc_new _ _
  have HLEN := Lib.hid hlen
  have HRD := Lib.hid hrd
  have HS2 := Lib.hid hb2.size
  have HB2 := Lib.hid (HB1.out.trans (hb2.mono HB1.out.size))
  have HB23 := Lib.hid hb3
  have HB3 := Lib.hid (HB2.out.trans (hb3.mono HB2.out.size))
  have HX13 := Lib.hid (belowBox hb3 (belowBox hb2 HX11.out))
  obtain ⟨x0, x1, x2, x3, x4, x5, x6, _⟩ := box7 hx3
  obtain ⟨s0, s1, s2, s3, s4, s5, s6⟩ := box6 HX13.out
  have hkp : ∀ W' : World, Upd (fun k => k = w.heap.size + 1) W3 W' → W'.cell? ⟨W2.heap.size, 0, none⟩ = some (.int .i64 t) ∧ W'.cell? ⟨W2.heap.size, 1, none⟩ = some (.int .i64 h) ∧ W'.cell? ⟨W2.heap.size, 2, none⟩ = some (.int .i64 r) ∧ W'.cell? ⟨W2.heap.size, 3, none⟩ = some (.slice A cs.length c) ∧ W'.cell? ⟨W2.heap.size, 4, none⟩ = some (.int .u32 hist) ∧ W'.cell? ⟨W2.heap.size, 5, none⟩ = some (.slice R' n' c') ∧ W'.cell? ⟨W2.heap.size, 6, none⟩ = some (.bool (retB rs a)) := fun W' hu => by
    have hx := (hu.block W2.heap.size (Array.getElem?_eq_some_iff.1 hx3).1 (fun (e : W2.heap.size = w.heap.size + 1) => by have := HS1.out; have := HS2.out; omega)).trans hx3
    obtain ⟨q0, q1, q2, q3, q4, q5, q6, _⟩ := box7 hx
    exact ⟨q0, q1, q2, q3, q4, q5, q6⟩
  have HKP := Lib.hid hkp
  clear hrd hb2 hb3 hlen hkp d0 d1 d2 d3 d4 d5 hx3
  go_wp2_with fail
  clear hW3
  go_region_held3 (fun W' => W'.cell? ⟨W2.heap.size, 0, none⟩ = some (.int .i64 t) ∧ W'.cell? ⟨W2.heap.size, 1, none⟩ = some (.int .i64 h) ∧ W'.cell? ⟨W2.heap.size, 2, none⟩ = some (.int .i64 r) ∧ W'.cell? ⟨W2.heap.size, 3, none⟩ = some (.slice A cs.length c) ∧ W'.cell? ⟨W2.heap.size, 4, none⟩ = some (.int .u32 hist) ∧ W'.cell? ⟨W2.heap.size, 5, none⟩ = some (.slice R' n' c') ∧ W'.cell? ⟨W2.heap.size, 6, none⟩ = some (.bool (retB rs a)))
    (first | exact ⟨x0, x1, x2, x3, x4, x5, x6⟩ | exact HKP.out _ (Upd.drew _ W3) | exact HKP.out _ (Upd.trans (by (repeat refine Upd.set ?_ (by rfl) _ _); exact Upd.refl _ _) (Upd.drew (fun k => k = w.heap.size + 1) _) fun _ h => .inl h)) (fail)
  all_goals
    go_wp2_with fail
    (try simp only [Exit.inBlock, Exit.then])
    have hpr : ∀ W9 : World, Upd (fun k => k = w.heap.size + 1) W3 W9 → PredR (.agg #[.int .i64 t, .int .i64 h, .int .i64 r, .slice A cs.length c, .int .u32 hist, .slice R' n' c']) t h r cs hist rs.dropLast (fun k => w0.heap.size ≤ k ∧ k < w.heap.size) W9 ∧ Below w.heap.size w W9 := fun W9 hu => by
      have hbf : Below w.heap.size w W9 := HB3.out.trans (hu.below (by have := HB3.out.size; omega) fun k (e : k = w.heap.size + 1) => by omega)
      refine ⟨⟨A, c, R', c', by rw [HLEN.out], fun W8 hu8 => ⟨?_, ?_⟩⟩, hbf⟩
      · exact Rd.old HRO.out (HBW.out.trans (hbf.mono HBW.out.size)) hu8 (fun k hk e => by omega)
      · rw [HLEN.out]
        refine HRD.out _ ((((Upd.of_below HB23.out).mono (G := fun k => W2.heap.size ≤ k ∨ (w0.heap.size ≤ k ∧ k < w.heap.size + 2)) fun k h => .inl h).trans (hu.mono (G := fun k => W2.heap.size ≤ k ∨ (w0.heap.size ≤ k ∧ k < w.heap.size + 2)) fun k (h : k = w.heap.size + 1) => .inr (by have := HBW.out.size; omega)) (fun k h => .inl h)).trans (hu8.mono (G := fun k => W2.heap.size ≤ k ∨ (w0.heap.size ≤ k ∧ k < w.heap.size + 2)) fun k h => .inr (by omega)) (fun k h => .inl h) |> fun hh => ⟨hh.os, hh.tape, hh.output, hh.size, fun k hk hn => hh.block k hk fun h => hn ?_⟩)
        have := HS1.out
        rcases h with h | h
        · omega
        · omega
    refine bodyPost_ret (v := .tuple #[.agg #[.int .i64 t, .int .i64 h, .int .i64 r, .slice A cs.length c, .int .u32 hist, .slice R' n' c'], .bool (retB rs a), .int .i64 0]) (results_cell3 rfl rfl rfl rfl (run_loadVar_row (P := Tryz.prog) _ _ 50 50 _ (0, 0) _ (set6_heap HX13.out _ _ _ _ _ _) Tryz.underlying50 rfl (by kernel_rfl))) rfl ?_
    obtain ⟨hp1, hp2⟩ := hpr _ ((uset6 W3 (w.heap.size + 1) (.int .i64 t) (.int .i64 h) (.int .i64 r) (.slice A cs.length c) (.int .u32 hist) (.slice R' n' c')).trans (Upd.drew (fun k => k = w.heap.size + 1) _) fun k h => .inl h)
    exact ⟨_, rfl, hp1, hp2⟩
end Go.Proofs.YtdkacdfhapgboaaGreat

/- The specification's predictor: NewPred, SamePred. -/
set_option linter.unusedVariables false
set_option linter.unusedSimpArgs false
namespace Go.Proofs.YtdkacdfhapgboaaGreat
open Go.RowKit

attribute [local irreducible] World.setCell in
set_option maxRecDepth 100000 in
set_option maxHeartbeats 1000000 in
theorem rNewPred_bad (t h r : Int) (hs : predShapeB t h r = false) (w : World) :
    Calls Tryz.prog 24 #[.agg #[.int .i64 t, .int .i64 h, .int .i64 r]] w fun e w' => e = .returned (.tuple #[emptyP, .int .i64 330]) ∧ Below w.heap.size w w' := by
  obtain ⟨W0, hW0⟩ : ∃ W0, (w.alloc (.cells #[.int .i64 t, .int .i64 h, .int .i64 r] 47)).alloc (.cells #[.int .i64 0, .int .i64 0, .int .i64 0, .slice none 0 0, .int .u32 0, .slice none 0 0] 50) = W0 := ⟨_, rfl⟩
  have hb0 : Below w.heap.size w W0 := by rw [← hW0]; exact ((Below.refl _ _).alloc (Nat.le_refl _) _).alloc (by simp) _
  have hx0 : W0.heap[w.heap.size]? = some (.cells #[.int .i64 t, .int .i64 h, .int .i64 r] 47 (0, 0)) := by rw [← hW0]; exact (heap_alloc_old _ _ (by simp)).trans (heap_alloc_new w _)
  have hx1 : W0.heap[w.heap.size + 1]? = some (.cells #[.int .i64 0, .int .i64 0, .int .i64 0, .slice none 0 0, .int .u32 0, .slice none 0 0] 50 (0, 0)) := by rw [← hW0]; exact alloc_at _ _ _ (by simp)
  have hsz : w.heap.size + 2 ≤ W0.heap.size := by rw [← hW0]; simp
  have c0 := boxAt (i := 0) hx0 rfl
  have c1 := boxAt (i := 1) hx0 rfl
  have c2 := boxAt (i := 2) hx0 rfl
  have HX1 := Lib.hid hx1
  have HB0 := Lib.hid hb0
  have HS := Lib.hid hs
  clear hx0 hx1 hb0 hs
  go_enter Tryz.func24, Tryz.ntmps24
  go_wp2_with fail
  refine (rPredShape_any _ _ _ _).mono ?_
  rintro e W ⟨rfl, hb⟩
  rw [HS.out]
  have HB := Lib.hid (belowBox hb HX1.out)
  obtain ⟨s0, s1, s2, s3, s4, s5, d0⟩ := box6 HB.out
  have HBW := Lib.hid (HB0.out.trans (hb.mono HB0.out.size))
  clear hb
  go_wp2_with fail
  (try simp only [Exit.inBlock, Exit.then])
  refine bodyPost_ret (v := .tuple #[emptyP, .int .i64 330]) (results_cell2 rfl rfl rfl (run_loadVar_row (P := Tryz.prog) _ _ 50 50 _ (0, 0) _ (set6_heap HB.out _ _ _ _ _ _) Tryz.underlying50 rfl (by kernel_rfl))) rfl ?_
  exact ⟨rfl, bset6 HBW.out (by omega) _ _ _ _ _ _⟩

/-- What the loop of NewPred keeps. -/
structure NPr (w : World) (pb : Nat) (t h r : Int) (k : Nat) (wr : World) : Prop where
  ex : ∃ v, wr.heap[pb]? = some (.cells #[.int .i64 t, .int .i64 h, .int .i64 r, v, .int .u32 0, .slice none 0 0] 50 (0, 0)) ∧ wr.ownsRow (pb + 1) 3 1 v k (nums .i64 (List.replicate k 1))
  conf : wr.heap[w.heap.size]? = some (.cells #[.int .i64 t, .int .i64 h, .int .i64 r] 47 (0, 0))
  res : wr.heap[w.heap.size + 1]? = some (.cells #[.int .i64 0, .int .i64 0, .int .i64 0, .slice none 0 0, .int .u32 0, .slice none 0 0] 50 (0, 0))
  below : Below w.heap.size w wr
theorem NPr.lt {w wr : World} {pb k : Nat} {t h r : Int} (H : NPr w pb t h r k wr) : pb < wr.heap.size := by
  obtain ⟨v, h1, _⟩ := H.ex
  exact (Array.getElem?_eq_some_iff.1 h1).1
theorem NPr.step {w wr W2 : World} {pb k : Nat} {t h r : Int} {v v' : Value} (H : NPr w pb t h r k wr) (hp : w.heap.size + 2 ≤ pb) (hv : wr.ownsRow (pb + 1) 3 1 v k (nums .i64 (List.replicate k 1)))
    (ho : W2.ownsRow (pb + 1) 3 1 v' (k + 1) (nums .i64 (List.replicate (k + 1) 1))) (hg : (wr.alloc (.cells #[.int .i64 1] 3)).grownBy W2 v.ownBlock) (hx : wr.heap[pb]? = some (.cells #[.int .i64 t, .int .i64 h, .int .i64 r, v, .int .u32 0, .slice none 0 0] 50 (0, 0))) :
    NPr w pb t h r (k + 1) (W2.setCell ⟨pb, 3, none⟩ v') ∧ W2.heap[pb]? = some (.cells #[.int .i64 t, .int .i64 h, .int .i64 r, v, .int .u32 0, .slice none 0 0] 50 (0, 0)) := by
  have hl := (Array.getElem?_eq_some_iff.1 hx).1
  have hk : ∀ b o, b ≤ pb → wr.heap[b]? = some o → W2.heap[b]? = some o := fun b o hb h => by
    have h1 := (Array.getElem?_eq_some_iff.1 h).1
    refine (hg.block b (by simp; omega) fun e => ?_).trans ((heap_alloc_old wr _ h1).trans h)
    have := (hv.lt b e.symm).1
    omega
  have hu := Upd.setCell W2 ⟨pb, 3, none⟩ v'
  refine ⟨⟨⟨v', set1_heap (hk pb _ (Nat.le_refl _) hx) 3 v', own_upd ho hu fun j hj (e : j = pb) => by have := (ho.lt j hj).1; omega⟩, ?_, ?_, ?_⟩, hk pb _ (Nat.le_refl _) hx⟩
  · exact (hu.block _ (Array.getElem?_eq_some_iff.1 (hk _ _ (by omega) H.conf)).1 (fun (e : w.heap.size = pb) => by omega)).trans (hk _ _ (by omega) H.conf)
  · exact (hu.block _ (Array.getElem?_eq_some_iff.1 (hk _ _ (by omega) H.res)).1 (fun (e : w.heap.size + 1 = pb) => by omega)).trans (hk _ _ (by omega) H.res)
  · have h1 : Below w.heap.size w (wr.alloc (.cells #[.int .i64 1] 3)) := H.below.alloc H.below.size _
    exact (h1.trans ((Upd.of_grown hg).below h1.size fun j hj => by have := (hv.lt j hj).1; omega)).trans (hu.below (by have := hg.size; simp at this; have := H.below.size; omega) fun j (e : j = pb) => by omega)
theorem rd_oneI (W : World) : Rd (W.alloc (.cells #[.int .i64 1] 3)) (some ⟨W.heap.size, 0, none⟩) 1 1 (nums .i64 [1]) :=
  ⟨by simp, by omega, fun j hj => ⟨_, rfl, by
    have hj0 : j = 0 := by simpa using hj
    subst hj0
    have := heap_alloc_new W (.cells #[.int .i64 1] 3)
    rw [show ((⟨W.heap.size, 0, none⟩ : Addr).add 0) = ⟨W.heap.size, 0, none⟩ from rfl]
    simp only [World.cell?]
    rw [this]
    rfl⟩⟩

attribute [local irreducible] World.setCell in
set_option maxRecDepth 100000 in
set_option maxHeartbeats 2000000 in
theorem rNewPred_ok (t : Nat) (h r : Int) (hs : predShapeB t h r = true) (w : World) :
    Calls Tryz.prog 24 #[.agg #[.int .i64 (t : Int), .int .i64 h, .int .i64 r]] w fun e w' => ∃ u, e = .returned (.tuple #[u, .int .i64 0]) ∧ PredR u t h r (List.replicate (2 ^ t) 1) 0 [] (fun k => k < w.heap.size) w' ∧ Below w.heap.size w w' := by
  have ht : t ≤ 12 := by have := predShapeB_le hs; omega
  obtain ⟨N, hN, N1, N2, hNw, _, _⟩ := pow_wrap t ht
  rw [hN]
  obtain ⟨W0, hW0⟩ : ∃ W0, (w.alloc (.cells #[.int .i64 (t : Int), .int .i64 h, .int .i64 r] 47)).alloc (.cells #[.int .i64 0, .int .i64 0, .int .i64 0, .slice none 0 0, .int .u32 0, .slice none 0 0] 50) = W0 := ⟨_, rfl⟩
  have hb0 : Below w.heap.size w W0 := by rw [← hW0]; exact ((Below.refl _ _).alloc (Nat.le_refl _) _).alloc (by simp) _
  have hx0 : W0.heap[w.heap.size]? = some (.cells #[.int .i64 (t : Int), .int .i64 h, .int .i64 r] 47 (0, 0)) := by rw [← hW0]; exact (heap_alloc_old _ _ (by simp)).trans (heap_alloc_new w _)
  have hx1 : W0.heap[w.heap.size + 1]? = some (.cells #[.int .i64 0, .int .i64 0, .int .i64 0, .slice none 0 0, .int .u32 0, .slice none 0 0] 50 (0, 0)) := by rw [← hW0]; exact alloc_at _ _ _ (by simp)
  have hsz : w.heap.size + 2 ≤ W0.heap.size := by rw [← hW0]; simp
  have c0 := boxAt (i := 0) hx0 rfl
  have c1 := boxAt (i := 1) hx0 rfl
  have c2 := boxAt (i := 2) hx0 rfl
  have HX0 := Lib.hid hx0
  have HX1 := Lib.hid hx1
  have HB0 := Lib.hid hb0
  have HS := Lib.hid hs
  have HSZ := Lib.hid hsz
  have HNW := Lib.hid hNw
  clear hx0 hx1 hb0 hs hsz hN hNw
  go_enter Tryz.func24, Tryz.ntmps24
  go_wp2_with fail
  refine (rPredShape_any _ _ _ _).mono ?_
  rintro e W ⟨rfl, hb⟩
  rw [HS.out]
  obtain ⟨V, hV⟩ : ∃ V, W.alloc (.cells #[.int .i64 (t : Int), .int .i64 h, .int .i64 r, .slice none 0 0, .int .u32 0, .slice none 0 0] 50) = V := ⟨_, rfl⟩
  have hbv : Below W.heap.size W V := by rw [← hV]; exact balloc _ _
  have HSW := Lib.hid (show w.heap.size + 2 ≤ W.heap.size from Nat.le_trans HSZ.out hb.size)
  have hb1 := HB0.out.trans (hb.mono HB0.out.size)
  have HNP := Lib.hid (show NPr w W.heap.size t h r 0 V from ⟨⟨.slice none 0 0, by rw [← hV]; exact heap_alloc_new _ _, World.ownsRow_nil _ _ _ _⟩, belowBox hbv (belowBox hb HX0.out), belowBox hbv (belowBox hb HX1.out), hb1.trans (hbv.mono hb1.size)⟩)
  have e0 := bkeep hb c0
  have e1 := bkeep hb c1
  have e2 := bkeep hb c2
  have HV := Lib.hid hV
  clear hb hbv hb1 c0 c1 c2 hV
  go_wp2_with fail
  rw [HV.out]
  go_loopw [5] (fun i wr => ∃ k : Nat, k ≤ N ∧ i = .int .i64 k ∧ Hid (NPr w W.heap.size t h r k wr)) (fun i _ => N - (intOf i).toNat)
  case atStart => exact ⟨0, Nat.zero_le _, rfl, HNP⟩
  case round =>
    obtain ⟨k, hk, rfl, hI⟩ := hrel
    obtain ⟨v, hx, ho⟩ := hI.out.ex
    have hnw := HNW.out
    have x0 := boxAt (i := 0) hI.out.conf rfl
    by_cases hlt : k < N
    · obtain ⟨i0, hi0, hz0, hz1, hz2⟩ := info_parts info_int
      obtain ⟨W1, hW1⟩ : ∃ V, wr.alloc (.cells #[.int .i64 1] 3) = V := ⟨_, rfl⟩
      have ho1 : W1.ownsRow (W.heap.size + 1) 3 1 v k (nums .i64 (List.replicate k 1)) := by rw [← hW1]; exact ho.alloc _
      have hr1 : Rd W1 (some ⟨wr.heap.size, 0, none⟩) 1 1 (nums .i64 [1]) := by rw [← hW1]; exact rd_oneI wr
      obtain ⟨v2, W2, run2, ho2, hg2⟩ := app_any (P := Tryz.prog) (t := 48) (ty := 48) (c := 1) Tryz.underlying48 hi0 hz0 hz1 hz2 rfl ho1 hr1 (numsR_one _ _) (by unfold maxLen; omega) (by omega) (by rw [← hW1]; have := hI.out.lt; simp; omega)
      rw [← nums_append, show List.replicate k (1 : Int) ++ [1] = List.replicate (k + 1) 1 by rw [List.replicate_succ']] at ho2
      obtain ⟨g, c2, rfl⟩ := own_slice ho2 (by omega)
      have hstep := hI.out.step (by have := HSW.out; omega) ho ho2 (by rw [hW1]; exact hg2) hx
      have HNX := Lib.hid hstep.1
      have y3 := boxAt (i := 3) (by rw [← hW1]; exact (heap_alloc_old wr _ hI.out.lt).trans hx : W1.heap[W.heap.size]? = _) rfl
      obtain ⟨q0, q1, q2, q3, q4, q5, q6⟩ := box6 hstep.2
      obtain ⟨s0, s1, s2, s3, s4, s5, s6⟩ := box6 hx
      clear hstep ho1 hr1 ho2 hg2 ho hx hi0 hz0 hz1 hz2
      go_wp2_with (at_builtin; refine Lib.wpList_append_run _ rfl (.tmp 20) (.tmp 21) _ _ rfl _ _ rfl rfl _ _ run2 ?_)
      go_roundw
      case rel => exact ⟨k + 1, by omega, by go_num, HNX⟩
      case measure => simp [intOf]; omega
    · obtain rfl : k = N := by omega
      obtain ⟨A2, c2, rfl, hrd⟩ := own_rd ho
      obtain ⟨s0, s1, s2, s3, s4, s5, s6⟩ := box6 hx
      obtain ⟨q0, q1, q2, q3, q4, q5, q6⟩ := box6 hI.out.res
      have HO := Lib.hid ho
      have HRES := Lib.hid hI.out.res
      have HBB := Lib.hid hI.out.below
      clear ho hrd hx
      go_wp2_with fail
      (try simp only [Exit.inBlock, Exit.then])
      refine bodyPost_ret (v := .tuple #[.agg #[.int .i64 (t : Int), .int .i64 h, .int .i64 r, .slice A2 k c2, .int .u32 0, .slice none 0 0], .int .i64 0]) (results_cell2 rfl rfl rfl (run_loadVar_row (P := Tryz.prog) _ _ 50 50 _ (0, 0) _ (set6_heap HRES.out _ _ _ _ _ _) Tryz.underlying50 rfl (by kernel_rfl))) rfl ?_
      refine ⟨_, rfl, ⟨A2, c2, none, 0, by simp, fun W9 hu => ⟨?_, rd_nil _ _⟩⟩, bset6 HBB.out (by omega) _ _ _ _ _ _⟩
      rw [List.length_replicate]
      exact own_rdR (own_upd (own_upd HO.out (uset6 wr (w.heap.size + 1) _ _ _ _ _ _) fun j hj (e : j = w.heap.size + 1) => by have := (HO.out.lt j hj).1; have := HSW.out; omega) hu fun j hj (e : j < w.heap.size) => by have := (HO.out.lt j hj).1; have := HSW.out; omega)

set_option maxRecDepth 100000 in
set_option maxHeartbeats 2000000 in
theorem samePred_true (t h r : Int) (A A' R R' : Option Addr) (c c' rc rc' : Nat) (cs rs : List Int) (hist : Int) (w : World) (h1 : RdI w .i64 A cs.length cs) (h1' : RdI w .i64 A' cs.length cs) (h2 : RdI w .u32 R rs.length rs) (h2' : RdI w .u32 R' rs.length rs) :
    Calls Tryz.prog 25 #[.agg #[.int .i64 t, .int .i64 h, .int .i64 r, .slice A cs.length c, .int .u32 hist, .slice R rs.length rc], .agg #[.int .i64 t, .int .i64 h, .int .i64 r, .slice A' cs.length c', .int .u32 hist, .slice R' rs.length rc']] w
      fun e w' => e = .returned (.bool true) ∧ Below w.heap.size w w' := by
  obtain ⟨W0, hW0⟩ : ∃ W0, (w.alloc (.cells #[.int .i64 t, .int .i64 h, .int .i64 r, .slice A cs.length c, .int .u32 hist, .slice R rs.length rc] 50)).alloc (.cells #[.int .i64 t, .int .i64 h, .int .i64 r, .slice A' cs.length c', .int .u32 hist, .slice R' rs.length rc'] 50) = W0 := ⟨_, rfl⟩
  have hb0 : Below w.heap.size w W0 := by rw [← hW0]; exact ((Below.refl _ _).alloc (Nat.le_refl _) _).alloc (by simp) _
  have hx0 : W0.heap[w.heap.size]? = some (.cells #[.int .i64 t, .int .i64 h, .int .i64 r, .slice A cs.length c, .int .u32 hist, .slice R rs.length rc] 50 (0, 0)) := by rw [← hW0]; exact (heap_alloc_old _ _ (by simp)).trans (heap_alloc_new w _)
  have hx1 : W0.heap[w.heap.size + 1]? = some (.cells #[.int .i64 t, .int .i64 h, .int .i64 r, .slice A' cs.length c', .int .u32 hist, .slice R' rs.length rc'] 50 (0, 0)) := by rw [← hW0]; exact alloc_at _ _ _ (by simp)
  obtain ⟨c0, c1, c2, c3, c4, c5, _⟩ := box6 hx0
  obtain ⟨d0, d1, d2, d3, d4, d5, _⟩ := box6 hx1
  have H1 := Lib.hid (show RdI W0 .i64 A cs.length cs from Rd.below h1 hb0)
  have H1' := Lib.hid (show RdI W0 .i64 A' cs.length cs from Rd.below h1' hb0)
  have H2 := Lib.hid (show RdI W0 .u32 R rs.length rs from Rd.below h2 hb0)
  have H2' := Lib.hid (show RdI W0 .u32 R' rs.length rs from Rd.below h2' hb0)
  have HX0 := Lib.hid hx0
  have HX1 := Lib.hid hx1
  have HB0 := Lib.hid hb0
  have hle := h1.le
  clear h1 h1' h2 h2' hx0 hx1 hb0
  go_enter Tryz.func25, Tryz.ntmps25
  go_wp2_with fail
  refine (sameWords_true R R' rs.length rc rc' rs _ H2.out H2'.out).mono ?_
  rintro e W1 ⟨rfl, hb1⟩
  have HB1 := Lib.hid (HB0.out.trans (hb1.mono HB0.out.size))
  have K1 := Lib.hid (show RdI W1 .i64 A cs.length cs from Rd.below H1.out hb1)
  have K1' := Lib.hid (show RdI W1 .i64 A' cs.length cs from Rd.below H1'.out hb1)
  have Y0 := Lib.hid (belowBox hb1 HX0.out)
  have Y1 := Lib.hid (belowBox hb1 HX1.out)
  obtain ⟨e0, e1, e2, e3, e4, e5, _⟩ := box6 Y0.out
  obtain ⟨g0, g1, g2, g3, g4, g5, _⟩ := box6 Y1.out
  clear c0 c1 c2 c3 c4 c5 d0 d1 d2 d3 d4 d5 hb1
  go_wp2_with fail
  clear e0 e1 e2 e3 e4 e5 g0 g1 g2 g3 g4 g5
  go_loopw [5] (fun i wr => ∃ k : Nat, k ≤ cs.length ∧ i = .int .i64 k ∧ Hid (Below W1.heap.size W1 wr)) (fun i _ => cs.length - (intOf i).toNat)
  case atStart => exact ⟨0, Nat.zero_le _, rfl, Lib.hid (Below.refl _ _)⟩
  case round =>
    obtain ⟨k, hk, rfl, hI⟩ := hrel
    have s1 := boxAt (i := 3) (belowBox hI.out Y0.out) rfl
    have s2 := boxAt (i := 3) (belowBox hI.out Y1.out) rfl
    by_cases hlt : k < cs.length
    · obtain ⟨ad, rfl, hc⟩ := RdI.at (show RdI wr .i64 A cs.length cs from Rd.below K1.out hI.out) k hlt
      obtain ⟨ad', rfl, hc'⟩ := RdI.at (show RdI wr .i64 A' cs.length cs from Rd.below K1'.out hI.out) k hlt
      obtain ⟨x, hx⟩ : ∃ x, gi cs k = x := ⟨_, rfl⟩
      rw [hx] at hc hc'
      clear hx
      go_wp2_with fail
      go_quiet (fail)
      go_wp2_with fail
      go_roundw
      case rel => exact ⟨k + 1, by omega, by go_num, Lib.hid (bdrewN hI.out _)⟩
      case measure => simp [intOf]; omega
    · go_wp2_with fail
      go_ret
      exact ⟨rfl, HB1.out.trans (hI.out.mono HB1.out.size)⟩
end Go.Proofs.YtdkacdfhapgboaaGreat

/- Predictors of the program and of the specification, side by side: each pair of functions hands back the same numbers. -/
set_option linter.unusedVariables false
set_option linter.unusedSimpArgs false
namespace Go.Proofs.YtdkacdfhapgboaaGreat
open Go.RowKit

/-- A predictor's numbers, and an error. -/
structure PR where
  t : Int
  h : Int
  r : Int
  cs : List Int
  hist : Int
  rs : List Int
  e : Int
def PR.none : PR := ⟨0, 0, 0, [], 0, [], 330⟩
/-- A value that reads as these numbers. -/
def PR.Of (X : PR) (u : Value) (F : Nat → Prop) (w : World) : Prop := PredR u X.t X.h X.r X.cs X.hist X.rs F w
theorem PredR.mono {e : Value} {t h r : Int} {cs : List Int} {hist : Int} {rs : List Int} {F G : Nat → Prop} {w : World} (H : PredR e t h r cs hist rs F w) (hG : ∀ k, G k → F k) : PredR e t h r cs hist rs G w := by
  obtain ⟨A, c, R, rc, he, h⟩ := H
  exact ⟨A, c, R, rc, he, fun W2 hu => h W2 (hu.mono hG)⟩
theorem PR.of_empty (F : Nat → Prop) (w : World) : PR.none.Of emptyP F w := ⟨.none, 0, .none, 0, rfl, fun W2 _ => ⟨⟨by simp [PR.none], by simp [PR.none], fun j hj => absurd hj (by simp [PR.none])⟩, rd_nil _ _⟩⟩
/-- What such a function hands back: the predictor's value and the error. -/
def PR.End (X : PR) (B : Nat) (w : World) (e : Ending) (w' : World) : Prop := ∃ u, e = .returned (.tuple #[u, .int .i64 X.e]) ∧ X.Of u (fun k => B ≤ k ∧ k < w.heap.size) w' ∧ Below w.heap.size w w'
/-- .. with a bool besides. -/
def PR.End3 (X : PR) (b : Bool) (B : Nat) (w : World) (e : Ending) (w' : World) : Prop := ∃ u, e = .returned (.tuple #[u, .bool b, .int .i64 X.e]) ∧ X.Of u (fun k => B ≤ k ∧ k < w.heap.size) w' ∧ Below w.heap.size w w'

def newX (t h r : Int) : PR := if predShapeB t h r = true then ⟨t, h, r, List.replicate (2 ^ t.toNat) 1, 0, [], 0⟩ else PR.none
theorem newS (t h r : Int) (w : World) : Calls Tryz.prog 23 #[.agg #[.int .i64 t, .int .i64 h, .int .i64 r]] w ((newX t h r).End 0 w) := by
  unfold newX
  cases hs : predShapeB t h r
  · refine (NewPred_bad t h r hs w).mono ?_
    rintro e w' ⟨rfl, hb⟩
    exact ⟨_, rfl, PR.of_empty _ _, hb⟩
  · obtain ⟨t1, _⟩ := predShapeB_le hs
    obtain ⟨t, rfl⟩ := Int.eq_ofNat_of_zero_le t1
    refine (NewPred_ok t h r hs w).mono ?_
    rintro e w' ⟨g, rfl, ho, hb⟩
    refine ⟨_, rfl, ⟨some ⟨g, 0, .none⟩, 2 ^ t, .none, 0, by simp, fun W2 hu => ⟨?_, rd_nil _ _⟩⟩, hb⟩
    have h1 := own_rdR (own_upd ho hu fun k hk hf => by have := (ho.lt k hk).1; omega)
    have h2 : RdI W2 .i64 (some ⟨g, 0, .none⟩) (2 ^ t) (List.replicate (2 ^ t) 1) := by
      have e : nums .i64 (List.replicate (2 ^ t) (1 : Int)) = List.replicate (2 ^ t) (.int .i64 1) := by simp [nums]
      unfold RdI
      rw [e]
      exact h1
    show RdI W2 .i64 (some ⟨g, 0, .none⟩) (List.replicate (2 ^ t) (1 : Int)).length (List.replicate (2 ^ t) 1)
    rw [List.length_replicate]
    exact h2
theorem newR (t h r : Int) (w : World) : Calls Tryz.prog 24 #[.agg #[.int .i64 t, .int .i64 h, .int .i64 r]] w ((newX t h r).End 0 w) := by
  unfold newX
  cases hs : predShapeB t h r
  · refine (rNewPred_bad t h r hs w).mono ?_
    rintro e w' ⟨rfl, hb⟩
    exact ⟨_, rfl, PR.of_empty _ _, hb⟩
  · obtain ⟨t1, _⟩ := predShapeB_le hs
    obtain ⟨t, rfl⟩ := Int.eq_ofNat_of_zero_le t1
    refine (rNewPred_ok t h r hs w).mono ?_
    rintro e w' ⟨u, rfl, ho, hb⟩
    exact ⟨_, rfl, PredR.mono ho fun k hk => hk.2, hb⟩

section
variable (t h r : Int) (A R : Option Addr) (c rc : Nat) (cs rs : List Int) (hist : Int) (w0 w : World)
def trainX (pc : Int) (taken : Bool) : PR := if predOk t h r cs hist rs then ⟨t, h, r, trainCs cs pc hist taken, trainH h hist taken, rs, 0⟩ else PR.none
def callX (a : Int) : PR := if predOk t h r cs hist rs then ⟨t, h, r, cs, hist, callL r rs a, 0⟩ else PR.none
def retX (a : Int) : PR := if predOk t h r cs hist rs then ⟨t, h, r, cs, hist, rs.dropLast, 0⟩ else PR.none
def retY (a : Int) : Bool := if predOk t h r cs hist rs then retB rs a else false
theorem trainS (pc : Int) (taken : Bool) (B : Nat) (H : RdP w A c cs R rc rs) (hh : 0 ≤ hist ∧ hist < 4294967296) (hp : 0 ≤ pc ∧ pc < 4294967296) :
    Calls Tryz.prog 32 #[.agg #[.int .i64 t, .int .i64 h, .int .i64 r, .slice A cs.length c, .int .u32 hist, .slice R rs.length rc], .int .u32 pc, .bool taken] w ((trainX t h r cs rs hist pc taken).End B w) := by
  unfold trainX
  by_cases hq : predOk t h r cs hist rs
  · rw [if_pos hq]
    refine (Train_ok t h r A R c rc cs rs hist pc taken w H hq hh hp).mono ?_
    rintro e w' ⟨u, rfl, ho, hb⟩
    exact ⟨_, rfl, ho.reads B, hb⟩
  · rw [if_neg hq]
    refine (Train_bad t h r A R c rc cs rs hist pc taken w H.cnt hq hh).mono ?_
    rintro e w' ⟨rfl, hb⟩
    exact ⟨_, rfl, PR.of_empty _ _, hb⟩
theorem trainR' (pc : Int) (taken : Bool) (HO : RdP w0 A c cs R rc rs) (hbw : Below w0.heap.size w0 w) (hh : 0 ≤ hist ∧ hist < 4294967296) (hp : 0 ≤ pc ∧ pc < 4294967296) :
    Calls Tryz.prog 33 #[.agg #[.int .i64 t, .int .i64 h, .int .i64 r, .slice A cs.length c, .int .u32 hist, .slice R rs.length rc], .int .u32 pc, .bool taken] w ((trainX t h r cs rs hist pc taken).End w0.heap.size w) := by
  unfold trainX
  by_cases hq : predOk t h r cs hist rs
  · rw [if_pos hq]
    refine (rTrain_ok t h r A R c rc cs rs hist pc taken w0 w HO hbw hq hh hp).mono ?_
    rintro e w' ⟨u, rfl, ho, hb⟩
    exact ⟨_, rfl, ho, hb⟩
  · rw [if_neg hq]
    refine (rTrain_bad t h r A R c rc cs rs hist pc taken w (HO.below hbw) hq hh).mono ?_
    rintro e w' ⟨rfl, hb⟩
    exact ⟨_, rfl, PR.of_empty _ _, hb⟩
theorem callS (a : Int) (B : Nat) (H : RdP w A c cs R rc rs) (hh : 0 ≤ hist ∧ hist < 4294967296) :
    Calls Tryz.prog 34 #[.agg #[.int .i64 t, .int .i64 h, .int .i64 r, .slice A cs.length c, .int .u32 hist, .slice R rs.length rc], .int .u32 a] w ((callX t h r cs rs hist a).End B w) := by
  unfold callX
  by_cases hq : predOk t h r cs hist rs
  · rw [if_pos hq]
    refine (Call_ok t h r A R c rc cs rs hist a w H hq hh).mono ?_
    rintro e w' ⟨u, rfl, ho, hb⟩
    exact ⟨_, rfl, ho.reads B, hb⟩
  · rw [if_neg hq]
    refine (Call_bad t h r A R c rc cs rs hist a w H.cnt hq hh).mono ?_
    rintro e w' ⟨rfl, hb⟩
    exact ⟨_, rfl, PR.of_empty _ _, hb⟩
theorem callR' (a : Int) (HO : RdP w0 A c cs R rc rs) (hbw : Below w0.heap.size w0 w) (hh : 0 ≤ hist ∧ hist < 4294967296) :
    Calls Tryz.prog 35 #[.agg #[.int .i64 t, .int .i64 h, .int .i64 r, .slice A cs.length c, .int .u32 hist, .slice R rs.length rc], .int .u32 a] w ((callX t h r cs rs hist a).End w0.heap.size w) := by
  unfold callX
  by_cases hq : predOk t h r cs hist rs
  · rw [if_pos hq]
    refine (rCall_ok t h r A R c rc cs rs hist a w0 w HO hbw hq hh).mono ?_
    rintro e w' ⟨u, rfl, ho, hb⟩
    exact ⟨_, rfl, ho, hb⟩
  · rw [if_neg hq]
    refine (rCall_bad t h r A R c rc cs rs hist a w (HO.below hbw) hq hh).mono ?_
    rintro e w' ⟨rfl, hb⟩
    exact ⟨_, rfl, PR.of_empty _ _, hb⟩
theorem retS (a : Int) (B : Nat) (H : RdP w A c cs R rc rs) (hh : 0 ≤ hist ∧ hist < 4294967296) :
    Calls Tryz.prog 36 #[.agg #[.int .i64 t, .int .i64 h, .int .i64 r, .slice A cs.length c, .int .u32 hist, .slice R rs.length rc], .int .u32 a] w ((retX t h r cs rs hist a).End3 (retY t h r cs rs hist a) B w) := by
  unfold retX retY
  by_cases hq : predOk t h r cs hist rs
  · rw [if_pos hq, if_pos hq]
    refine (Return_ok t h r A R c rc cs rs hist a w H hq hh).mono ?_
    rintro e w' ⟨u, rfl, ho, hb⟩
    exact ⟨_, rfl, ho.reads B, hb⟩
  · rw [if_neg hq, if_neg hq]
    refine (Return_bad t h r A R c rc cs rs hist a w H.cnt hq hh).mono ?_
    rintro e w' ⟨rfl, hb⟩
    exact ⟨_, rfl, PR.of_empty _ _, hb⟩
theorem retR' (a : Int) (HO : RdP w0 A c cs R rc rs) (hbw : Below w0.heap.size w0 w) (hh : 0 ≤ hist ∧ hist < 4294967296) :
    Calls Tryz.prog 37 #[.agg #[.int .i64 t, .int .i64 h, .int .i64 r, .slice A cs.length c, .int .u32 hist, .slice R rs.length rc], .int .u32 a] w ((retX t h r cs rs hist a).End3 (retY t h r cs rs hist a) w0.heap.size w) := by
  unfold retX retY
  by_cases hq : predOk t h r cs hist rs
  · rw [if_pos hq, if_pos hq]
    refine (rReturn_ok t h r A R c rc cs rs hist a w0 w HO hbw hq hh).mono ?_
    rintro e w' ⟨u, rfl, ho, hb⟩
    exact ⟨_, rfl, ho, hb⟩
  · rw [if_neg hq, if_neg hq]
    refine (rReturn_bad t h r A R c rc cs rs hist a w (HO.below hbw) hq hh).mono ?_
    rintro e w' ⟨rfl, hb⟩
    exact ⟨_, rfl, PR.of_empty _ _, hb⟩
end
end Go.Proofs.YtdkacdfhapgboaaGreat

/- Arguments as they come in: shapes of predictors, predictors. -/
set_option linter.unusedVariables false
set_option linter.unusedSimpArgs false
namespace Go.Proofs.YtdkacdfhapgboaaGreat
open Go.RowKit Go.ChangeShapes Go.WideShapes

section
variable {H : Type} {enc : TypeId × Value → H} {P : Program} {W : World} {base : Nat} {sp : Nat → Bool} {held : Bool}
/-- A cell that reads as a slice of numbers (its spare room, too). -/
theorem slice_rd {t e : TypeId} {k : IntKind} {fuel : Nat} {v : Value} {x : DataW H × List MemPlace} (ht : P.underlying t = some (.slice e)) (he : P.underlying e = some (.int k)) (hc : P.cellsOf e = 1)
    (hf : DataW.trod enc P W base sp held fuel t [v] = some x) : ∃ A c xs, v = .slice A xs.length c ∧ RdI W k A xs.length xs ∧ (A = none → c = 0) ∧ xs.length ≤ c ∧ ∀ n ∈ xs, (Lit.int k n).wf = true := by
  rcases open_ints ht he hc hf with ⟨hcs, _⟩ | ⟨x, l, c, zs, hcs, _, hl, hm, hz, _, hcell, hwz⟩
  · obtain rfl : v = .slice none 0 0 := by simpa using hcs
    exact ⟨none, 0, [], rfl, ⟨by simp, by simp, fun j hj => absurd hj (by simp)⟩, fun _ => rfl, Nat.le_refl _, fun n hn => absurd hn (by simp)⟩
  · obtain rfl : v = .slice (some x) l c := by simpa using hcs
    have hzl : l ≤ zs.length := by split at hz <;> omega
    have hle : l ≤ 9223372036854775807 := by unfold maxLen at hm; omega
    have hlt : (zs.take l).length = l := by rw [List.length_take]; omega
    refine ⟨some x, c, zs.take l, by rw [hlt], ⟨by simp [hlt], by omega, fun j hj => ⟨x, rfl, ?_⟩⟩, (fun h => by cases h), by omega, fun n hn => hwz n (List.mem_of_mem_take hn)⟩
    have hj' : j < l := by simpa [hlt] using hj
    rw [hcell j (by omega)]
    simp [nums, List.getD_eq_getElem?_getD, List.getElem?_eq_getElem (show j < zs.length by omega)]
end
theorem array6 {α : Type} {cs : Array α} (h : cs.size = 6) : ∃ c0 c1 c2 c3 c4 c5, cs = #[c0, c1, c2, c3, c4, c5] := by
  obtain ⟨l⟩ := cs
  match l, h with
  | [c0, c1, c2, c3, c4, c5], _ => exact ⟨c0, c1, c2, c3, c4, c5, rfl⟩
section
variable {H : Type} {enc : TypeId × Value → H} {W : World} {base : Nat} {sp : Nat → Bool} {held : Bool}
set_option maxRecDepth 100000 in
theorem open_predConf {r : Reach} {b0 : Nat} {v : Value} {d : DataW H} {p : List MemPlace} (hv : Value.okWide Tryz.prog W r b0 47 v) (h : DataW.Trod enc Tryz.prog W base sp held 47 v d p) :
    ∃ t h r : Int, v = .agg #[.int .i64 t, .int .i64 h, .int .i64 r] := by
  obtain ⟨v0, v1, v2, y0, y1, y2, n, rfl, _, _, h0, h1, h2⟩ := Joins.open_agg3 Tryz.underlying47 (by kernel_rfl) (by kernel_rfl) hv h
  obtain ⟨t, e0, _, _⟩ := DataW.trod_int Tryz.underlying3 h0
  obtain ⟨u, e1, _, _⟩ := DataW.trod_int Tryz.underlying3 h1
  obtain ⟨r, e2, _, _⟩ := DataW.trod_int Tryz.underlying3 h2
  obtain rfl : v0 = _ := List.singleton_inj.1 e0
  obtain rfl : v1 = _ := List.singleton_inj.1 e1
  obtain rfl : v2 = _ := List.singleton_inj.1 e2
  exact ⟨t, u, r, rfl⟩
theorem fld {P : Program} {n : Nat} {ty : TypeId} {off m : Nat} {cells l : List Value} {x : DataW H × List MemPlace} (q : DataW.trod enc P W base sp held n ty ((cells.drop off).take (P.cellsOf ty)) = some x) (hk : P.cellsOf ty = m) (hl : (cells.drop off).take m = l) : DataW.trod enc P W base sp held n ty l = some x := by
  rw [hk, hl] at q
  exact q
theorem some_of {α : Type} {xs : List α} {i : Nat} (h : i < xs.length) : ∃ y, xs[i]? = some y := ⟨xs[i], List.getElem?_eq_getElem h⟩
set_option maxRecDepth 100000 in
theorem open_pred {r : Reach} {b0 : Nat} {v : Value} {d : DataW H} {p : List MemPlace} (hv : Value.okWide Tryz.prog W r b0 50 v) (h : DataW.Trod enc Tryz.prog W base sp held 50 v d p) :
    ∃ (t h r : Int) (A : Option Addr) (c : Nat) (cs : List Int) (hist : Int) (R : Option Addr) (rc : Nat) (rs : List Int), v = .agg #[.int .i64 t, .int .i64 h, .int .i64 r, .slice A cs.length c, .int .u32 hist, .slice R rs.length rc] ∧
      RdP W A c cs R rc rs ∧ (0 ≤ hist ∧ hist < 4294967296) := by
  obtain ⟨cs, rfl, hsz⟩ := okWide_struct Tryz.underlying50 hv
  obtain ⟨c0, c1, c2, c3, c4, c5, rfl⟩ := array6 (hsz.trans (by kernel_rfl))
  obtain ⟨fuel, hf⟩ := h
  obtain ⟨xs, n, _, _, _, hlen, hfl⟩ := DataW.trod_struct Tryz.underlying50 hf
  have hlen' : xs.length = 4 := hlen
  have k1 : Tryz.prog.cellsOf 47 = 3 := by kernel_rfl
  have k2 : Tryz.prog.cellsOf 48 = 1 := by kernel_rfl
  have k3 : Tryz.prog.cellsOf 27 = 1 := by kernel_rfl
  have k4 : Tryz.prog.cellsOf 28 = 1 := by kernel_rfl
  have k5 : Tryz.prog.cellsOf 3 = 1 := by kernel_rfl
  obtain ⟨y0, e0⟩ := some_of (show 0 < xs.length by omega)
  obtain ⟨y1, e1⟩ := some_of (show 1 < xs.length by omega)
  obtain ⟨y2, e2⟩ := some_of (show 2 < xs.length by omega)
  obtain ⟨y3, e3⟩ := some_of (show 3 < xs.length by omega)
  have f0 : DataW.trod enc Tryz.prog W base sp held n 47 [c0, c1, c2] = some y0 := fld (off := 0) (cells := [c0, c1, c2, c3, c4, c5]) ((hfl 0 _ rfl).trans e0) k1 rfl
  have f1 : DataW.trod enc Tryz.prog W base sp held n 48 [c3] = some y1 := fld (off := 3) (cells := [c0, c1, c2, c3, c4, c5]) ((hfl 1 _ rfl).trans e1) k2 rfl
  have f2 : DataW.trod enc Tryz.prog W base sp held n 27 [c4] = some y2 := fld (off := 4) (cells := [c0, c1, c2, c3, c4, c5]) ((hfl 2 _ rfl).trans e2) k3 rfl
  have f3 : DataW.trod enc Tryz.prog W base sp held n 28 [c5] = some y3 := fld (off := 5) (cells := [c0, c1, c2, c3, c4, c5]) ((hfl 3 _ rfl).trans e3) k4 rfl
  obtain ⟨zs, n', _, _, _, zlen, zfl⟩ := DataW.trod_struct Tryz.underlying47 f0
  have zlen' : zs.length = 3 := zlen
  obtain ⟨z0, g0⟩ := some_of (show 0 < zs.length by omega)
  obtain ⟨z1, g1⟩ := some_of (show 1 < zs.length by omega)
  obtain ⟨z2, g2⟩ := some_of (show 2 < zs.length by omega)
  have j0 : DataW.trod enc Tryz.prog W base sp held n' 3 [c0] = some z0 := fld (off := 0) (cells := [c0, c1, c2]) ((zfl 0 _ rfl).trans g0) k5 rfl
  have j1 : DataW.trod enc Tryz.prog W base sp held n' 3 [c1] = some z1 := fld (off := 1) (cells := [c0, c1, c2]) ((zfl 1 _ rfl).trans g1) k5 rfl
  have j2 : DataW.trod enc Tryz.prog W base sp held n' 3 [c2] = some z2 := fld (off := 2) (cells := [c0, c1, c2]) ((zfl 2 _ rfl).trans g2) k5 rfl
  obtain ⟨t, q0, _, _⟩ := DataW.trod_int Tryz.underlying3 j0
  obtain ⟨u, q1, _, _⟩ := DataW.trod_int Tryz.underlying3 j1
  obtain ⟨r, q2, _, _⟩ := DataW.trod_int Tryz.underlying3 j2
  obtain ⟨hist, q4, _, hw⟩ := DataW.trod_int Tryz.underlying27 f2
  obtain rfl : c0 = _ := List.singleton_inj.1 q0
  obtain rfl : c1 = _ := List.singleton_inj.1 q1
  obtain rfl : c2 = _ := List.singleton_inj.1 q2
  obtain rfl : c4 = _ := List.singleton_inj.1 q4
  obtain ⟨A, c, cs, rfl, a1, a2, a3, _⟩ := slice_rd Tryz.underlying48 Tryz.underlying3 k5 f1
  obtain ⟨R, rc, rs, rfl, b1, b2, b3, _⟩ := slice_rd Tryz.underlying28 Tryz.underlying27 k3 f3
  exact ⟨t, u, r, A, c, cs, hist, R, rc, rs, rfl, ⟨a1, a2, a3, b1, b2, b3⟩, wf_u32 hw⟩
end
end Go.Proofs.YtdkacdfhapgboaaGreat

/- SimPreds: predictors match the specification. -/
set_option linter.unusedVariables false
set_option linter.unusedSimpArgs false
namespace Go.Proofs.YtdkacdfhapgboaaGreat
open Go.RowKit

def lightB (t : Int) (n m : Nat) : Bool := (decide (n ≤ 300) && decide (m ≤ 40)) && (decide (t ≤ 8) || decide (12 < t))
set_option maxHeartbeats 1000000 in
theorem light_any (t h r : Int) (A R : Option Addr) (n c m rc : Nat) (hist : Int) (w : World) :
    Calls Tryz.prog 22 #[.agg #[.int .i64 t, .int .i64 h, .int .i64 r, .slice A n c, .int .u32 hist, .slice R m rc]] w fun e w' => e = .returned (.bool (lightB t n m)) ∧ Below w.heap.size w w' := by
  obtain ⟨W0, hW0⟩ : ∃ W0, w.alloc (.cells #[.int .i64 t, .int .i64 h, .int .i64 r, .slice A n c, .int .u32 hist, .slice R m rc] 50) = W0 := ⟨_, rfl⟩
  have hb0 : Below w.heap.size w W0 := by rw [← hW0]; exact balloc w _
  have hx0 : W0.heap[w.heap.size]? = some (.cells #[.int .i64 t, .int .i64 h, .int .i64 r, .slice A n c, .int .u32 hist, .slice R m rc] 50 (0, 0)) := by rw [← hW0]; exact heap_alloc_new w _
  obtain ⟨c0, c1, c2, c3, c4, c5, _⟩ := box6 hx0
  have HB0 := Lib.hid hb0
  clear hx0 hb0
  by_cases h1 : (n : Int) ≤ 300
  · by_cases h2 : (m : Int) ≤ 40
    · have hl : lightB t n m = (decide (t ≤ 8) || decide (12 < t)) := by
        unfold lightB
        rw [decide_eq_true (show n ≤ 300 by omega), decide_eq_true (show m ≤ 40 by omega)]
        simp
      rw [hl]
      clear hl
      by_cases h3 : t ≤ 8
      · rw [decide_eq_true h3]
        go_enter Tryz.func22, Tryz.ntmps22
        go_wp2
        go_ret
        exact ⟨rfl, HB0.out⟩
      · rw [decide_eq_false h3]
        cases h4 : decide (12 < t)
        all_goals
          go_enter Tryz.func22, Tryz.ntmps22
          go_wp2
          go_ret
          exact ⟨rfl, HB0.out⟩
    · have hl : lightB t n m = false := by
        unfold lightB
        rw [decide_eq_false (show ¬ m ≤ 40 by omega)]
        simp
      rw [hl]
      clear hl
      go_enter Tryz.func22, Tryz.ntmps22
      go_wp2
      go_ret
      exact ⟨rfl, HB0.out⟩
  · have hl : lightB t n m = false := by
      unfold lightB
      rw [decide_eq_false (show ¬ n ≤ 300 by omega)]
      simp
    rw [hl]
    clear hl
    go_enter Tryz.func22, Tryz.ntmps22
    go_wp2
    go_ret
    exact ⟨rfl, HB0.out⟩

attribute [local irreducible] World.setCell in
set_option maxRecDepth 100000 in
set_option maxHeartbeats 4000000 in
theorem preds_any (st sh sr : Int) (t h r : Int) (A : Option Addr) (c : Nat) (cs : List Int) (hist : Int) (R : Option Addr) (rc : Nat) (rs : List Int) (pc at_ : Int) (taken : Bool) (w : World) (H : RdP w A c cs R rc rs) (hh : 0 ≤ hist ∧ hist < 4294967296) (hp : 0 ≤ pc ∧ pc < 4294967296) (ha : 0 ≤ at_ ∧ at_ < 4294967296) :
    Calls Tryz.prog 4 #[.agg #[.int .i64 st, .int .i64 sh, .int .i64 sr], .agg #[.int .i64 t, .int .i64 h, .int .i64 r, .slice A cs.length c, .int .u32 hist, .slice R rs.length rc], .int .u32 pc, .int .u32 at_, .bool taken] w fun e w' => e = .returned (.bool true) ∧ Below w.heap.size w w' := by
  obtain ⟨W0, hW0⟩ : ∃ W0, (w.alloc (.cells #[.int .i64 st, .int .i64 sh, .int .i64 sr] 47)).alloc (.cells #[.int .i64 t, .int .i64 h, .int .i64 r, .slice A cs.length c, .int .u32 hist, .slice R rs.length rc] 50) = W0 := ⟨_, rfl⟩
  have hb0 : Below w.heap.size w W0 := by rw [← hW0]; exact ((Below.refl _ _).alloc (Nat.le_refl _) _).alloc (by simp) _
  have hx0 : W0.heap[w.heap.size]? = some (.cells #[.int .i64 st, .int .i64 sh, .int .i64 sr] 47 (0, 0)) := by rw [← hW0]; exact (heap_alloc_old _ _ (by simp)).trans (heap_alloc_new w _)
  have hx1 : W0.heap[w.heap.size + 1]? = some (.cells #[.int .i64 t, .int .i64 h, .int .i64 r, .slice A cs.length c, .int .u32 hist, .slice R rs.length rc] 50 (0, 0)) := by rw [← hW0]; exact alloc_at _ _ _ (by simp)
  have HB0 := Lib.hid hb0
  have HX0 := Lib.hid hx0
  have HX1 := Lib.hid hx1
  have HP := Lib.hid (H.below hb0)
  have HORG := Lib.hid H
  obtain ⟨c0, c1, c2, c3, c4, c5, _⟩ := box6 hx1
  have d0 := boxAt (i := 0) hx0 rfl
  have d1 := boxAt (i := 1) hx0 rfl
  have d2 := boxAt (i := 2) hx0 rfl
  clear hb0 hx0 hx1 H
  have hl := light_any t h r A R cs.length c rs.length rc hist W0
  have hgate : (lightB t cs.length rs.length = false ∧ True) ∨ (lightB t cs.length rs.length = true ∧ 8 < st ∧ st ≤ 12) ∨ (lightB t cs.length rs.length = true ∧ ((¬ 8 < st ∧ True) ∨ (8 < st ∧ ¬ st ≤ 12))) := by
    cases lightB t cs.length rs.length
    · exact .inl ⟨rfl, trivial⟩
    · by_cases h8 : 8 < st
      · by_cases h12 : st ≤ 12
        · exact .inr (.inl ⟨rfl, h8, h12⟩)
        · exact .inr (.inr ⟨rfl, .inr ⟨h8, h12⟩⟩)
      · exact .inr (.inr ⟨rfl, .inl ⟨h8, trivial⟩⟩)
  have hlight' : lightB t cs.length rs.length = true → cs.length ≤ 300 ∧ rs.length ≤ 40 := fun h => by
    unfold lightB at h
    simp only [Bool.and_eq_true, decide_eq_true_eq] at h
    exact h.1
  rcases hgate with ⟨hg, _⟩ | ⟨hg, g8, g12⟩ | ⟨hg, hg2⟩
  · rw [hg] at hl
    have HL := Lib.hid hl
    clear hl hg
    go_enter Tryz.func4, Tryz.ntmps4
    go_wp2_with fail
    refine HL.out.mono ?_
    rintro e W1 ⟨rfl, hb1⟩
    go_wp2_with fail
    refine (sane_any _).mono ?_
    rintro e W2 ⟨rfl, hb2⟩
    go_wp2
    go_ret
    exact ⟨rfl, HB0.out.trans ((hb1.trans (hb2.mono hb1.size)).mono HB0.out.size)⟩
  · rw [hg] at hl
    have HL := Lib.hid hl
    clear hl hg
    go_enter Tryz.func4, Tryz.ntmps4
    go_wp2_with fail
    refine HL.out.mono ?_
    rintro e W1 ⟨rfl, hb1⟩
    have x0 := bkeep hb1 d0
    go_wp2_with fail
    refine (sane_any _).mono ?_
    rintro e W2 ⟨rfl, hb2⟩
    go_wp2
    go_ret
    exact ⟨rfl, HB0.out.trans ((hb1.trans (hb2.mono hb1.size)).mono HB0.out.size)⟩
  · rw [hg] at hl
    have HL := Lib.hid hl
    have hlight := hlight' hg
    clear hlight'
    obtain ⟨X, hX⟩ : ∃ X, newX st sh sr = X := ⟨_, rfl⟩
    have HNS := Lib.hid (fun W => newS st sh sr W)
    have HNR := Lib.hid (fun W => newR st sh sr W)
    rw [hX] at HNS HNR
    obtain ⟨xt, xh, xr, xcs, xhist, xrs, xe⟩ := X
    obtain ⟨Y, hY⟩ : ∃ Y, trainX t h r cs rs hist pc taken = Y := ⟨_, rfl⟩
    obtain ⟨Z, hZ⟩ : ∃ Z, callX t h r cs rs hist at_ = Z := ⟨_, rfl⟩
    obtain ⟨U, hU⟩ : ∃ U, retX t h r cs rs hist at_ = U := ⟨_, rfl⟩
    obtain ⟨ub, hub⟩ : ∃ ub, retY t h r cs rs hist at_ = ub := ⟨_, rfl⟩
    have HTS := Lib.hid (fun A R c rc w B H => trainS t h r A R c rc cs rs hist w pc taken B H hh hp)
    have HTR := Lib.hid (fun A R c rc w0 w HO hbw => trainR' t h r A R c rc cs rs hist w0 w pc taken HO hbw hh hp)
    have HCS := Lib.hid (fun A R c rc w B H => callS t h r A R c rc cs rs hist w at_ B H hh)
    have HCR := Lib.hid (fun A R c rc w0 w HO hbw => callR' t h r A R c rc cs rs hist w0 w at_ HO hbw hh)
    have HES := Lib.hid (fun A R c rc w B H => retS t h r A R c rc cs rs hist w at_ B H hh)
    have HER := Lib.hid (fun A R c rc w0 w HO hbw => retR' t h r A R c rc cs rs hist w0 w at_ HO hbw hh)
    rw [hY] at HTS HTR
    rw [hZ] at HCS HCR
    rw [hU, hub] at HES HER
    obtain ⟨yt, yh, yr, ycs, yhist, yrs, ye⟩ := Y
    obtain ⟨zt, zh, zr, zcs, zhist, zrs, ze⟩ := Z
    obtain ⟨ut, uh, ur, ucs, uhist, urs, ue⟩ := U
    clear hl hg hX hY hZ hU hub
    rcases hg2 with ⟨g8, _⟩ | ⟨g8, g12⟩
    all_goals
      go_enter Tryz.func4, Tryz.ntmps4
      go_wp2_with fail
      refine HL.out.mono ?_
      rintro e W1 ⟨rfl, hb1⟩
      have HB1 := Lib.hid (HB0.out.trans (hb1.mono HB0.out.size))
      have HP1 := Lib.hid (HP.out.below hb1)
      have HX01 := Lib.hid (belowBox hb1 HX0.out)
      have HX11 := Lib.hid (belowBox hb1 HX1.out)
      have x0 := boxAt (i := 0) HX01.out rfl
      have x1 := boxAt (i := 1) HX01.out rfl
      have x2 := boxAt (i := 2) HX01.out rfl
      clear hb1 c0 c1 c2 c3 c4 c5 d0 d1 d2
      go_wp2_with fail
      refine (HNS.out _).mono ?_
      rintro e W2 ⟨u, rfl, ⟨A1, c1, R1, rc1, rfl, hr1⟩, hb2⟩
      dsimp only at hr1 ⊢
      obtain ⟨V2, hV2⟩ : ∃ V, W2.alloc (.cells #[.int .i64 xt, .int .i64 xh, .int .i64 xr, .slice A1 xcs.length c1, .int .u32 xhist, .slice R1 xrs.length rc1] 50) = V := ⟨_, rfl⟩
      have hbv : Below W2.heap.size W2 V2 := by rw [← hV2]; exact balloc _ _
      have hxv : V2.heap[W2.heap.size]? = some (.cells #[.int .i64 xt, .int .i64 xh, .int .i64 xr, .slice A1 xcs.length c1, .int .u32 xhist, .slice R1 xrs.length rc1] 50 (0, 0)) := by rw [← hV2]; exact heap_alloc_new _ _
      have hb12 := hb2.trans (hbv.mono hb2.size)
      have HB2 := Lib.hid (HB1.out.trans (hb12.mono HB1.out.size))
      have HP2 := Lib.hid (HP1.out.below hb12)
      have HX02 := Lib.hid (belowBox hb12 HX01.out)
      have HX12 := Lib.hid (belowBox hb12 HX11.out)
      have HA2 := Lib.hid hxv
      have hr1v := hr1 V2 (by rw [← hV2]; exact Upd.alloc _ _ _)
      have HR1 := Lib.hid hr1v.1
      have HR1' := Lib.hid hr1v.2
      have x0 := boxAt (i := 0) HX02.out rfl
      have x1 := boxAt (i := 1) HX02.out rfl
      have x2 := boxAt (i := 2) HX02.out rfl
      clear hbv hxv hb12 hb2 hr1 hr1v
      go_wp2_with fail
      clear hV2
      refine (HNR.out _).mono ?_
      rintro e W3 ⟨u, rfl, ⟨A2, c2, R2, rc2, rfl, hr2⟩, hb3⟩
      dsimp only at hr2 ⊢
      obtain ⟨V3, hV3⟩ : ∃ V, W3.alloc (.cells #[.int .i64 xt, .int .i64 xh, .int .i64 xr, .slice A2 xcs.length c2, .int .u32 xhist, .slice R2 xrs.length rc2] 50) = V := ⟨_, rfl⟩
      have hbv : Below W3.heap.size W3 V3 := by rw [← hV3]; exact balloc _ _
      have hxv : V3.heap[W3.heap.size]? = some (.cells #[.int .i64 xt, .int .i64 xh, .int .i64 xr, .slice A2 xcs.length c2, .int .u32 xhist, .slice R2 xrs.length rc2] 50 (0, 0)) := by rw [← hV3]; exact heap_alloc_new _ _
      have hb23 := hb3.trans (hbv.mono hb3.size)
      have HB3 := Lib.hid (HB2.out.trans (hb23.mono HB2.out.size))
      have HP3 := Lib.hid (HP2.out.below hb23)
      have HX13 := Lib.hid (belowBox hb23 HX12.out)
      have hq1 : RdI V3 .i64 A1 xcs.length xcs := Rd.below HR1.out hb23
      have hq1' : RdI V3 .u32 R1 xrs.length xrs := Rd.below HR1'.out hb23
      obtain ⟨hq2, hq2'⟩ := hr2 V3 (by rw [← hV3]; exact Upd.alloc _ _ _)
      obtain ⟨p0, p1, p2, p3, p4, p5, _⟩ := box6 HX13.out
      obtain ⟨a0, a1, a2, a3, a4, a5, _⟩ := box6 (belowBox hb23 HA2.out)
      obtain ⟨b0, b1, b2, b3, b4, b5, _⟩ := box6 hxv
      have HSAN := Lib.hid (fun q : After V3.heap.size V3 => sane_any q.W)
      have HSAM := Lib.hid (fun q : After V3.heap.size V3 => samePred_true xt xh xr A1 A2 R1 R2 c1 c2 rc1 rc2 xcs xrs xhist q.W (Rd.below hq1 q.below) (Rd.below hq2 q.below) (Rd.below hq1' q.below) (Rd.below hq2' q.below))
      have HCK := Lib.hid (fun q : After V3.heap.size V3 => checkPred_any t h r A c cs hist R rs rc q.W (Rd.below HP3.out.cnt q.below) hh)
      have HRK := Lib.hid (fun q : After V3.heap.size V3 => rCheckPred_any t h r A c cs hist R rs rc q.W (Rd.below HP3.out.cnt q.below) hh)
      have HPD := Lib.hid (fun q : After V3.heap.size V3 => Predict_any t h r A c cs hist R rs rc pc q.W (Rd.below HP3.out.cnt q.below) hh hp)
      have HRD := Lib.hid (fun q : After V3.heap.size V3 => rPredict_any t h r A c cs hist R rs rc pc q.W (Rd.below HP3.out.cnt q.below) hh hp)
      obtain ⟨ck, hck⟩ : ∃ ck : Int, (if predOk t h r cs hist rs then (0 : Int) else 330) = ck := ⟨_, rfl⟩
      obtain ⟨pd, hpd⟩ : ∃ pd, predictB t h r cs hist rs pc = pd := ⟨_, rfl⟩
      rw [hck] at HCK HRK
      rw [hpd] at HPD HRD
      clear hbv hxv hb23 hb3 hr2 hq1 hq1' hq2 hq2' hck hpd x0 x1 x2
      go_wp2_with fail
      clear hV3
      have f0 := After.cell p0
      have f1 := After.cell p1
      have f2 := After.cell p2
      have f3 := After.cell p3
      have f4 := After.cell p4
      have f5 := After.cell p5
      have g0 := After.cell a0
      have g1 := After.cell a1
      have g2 := After.cell a2
      have g3 := After.cell a3
      have g4 := After.cell a4
      have g5 := After.cell a5
      have k0 := After.cell b0
      have k1 := After.cell b1
      have k2 := After.cell b2
      have k3 := After.cell b3
      have k4 := After.cell b4
      have k5 := After.cell b5
      clear p0 p1 p2 p3 p4 p5 a0 a1 a2 a3 a4 a5 b0 b1 b2 b3 b4 b5
      refine region_after (Below.refl V3.heap.size V3) (by kernel_rfl) (by kernel_rfl) ?_
      repeat (go_big_quiet_step (first
        | (go_at_call 7; exact calls_after (Nat.le_refl _) (HSAN.out _))
        | (go_at_call 25; exact calls_after (Nat.le_refl _) (HSAM.out _))
        | (go_at_call 26; exact calls_after (Nat.le_refl _) (HCK.out _))
        | (go_at_call 27; exact calls_after (Nat.le_refl _) (HRK.out _))
        | (go_at_call 28; exact calls_after (Nat.le_refl _) (HPD.out _))
        | (go_at_call 29; exact calls_after (Nat.le_refl _) (HRD.out _))))
      refine wpQuiet_nil ?_
      intro _ hw'
      obtain ⟨nq, hw''⟩ := hw'
      subst hw''
      clear f0 f1 f2 f3 f4 f5 g0 g1 g2 g3 g4 g5 k0 k1 k2 k3 k4 k5
      have hb4 := nq.below
      obtain ⟨W4, hW4⟩ : ∃ W, nq.W = W := ⟨_, rfl⟩
      rw [hW4] at hb4
      rw [hW4]
      clear hW4 nq
      obtain ⟨V4, hV4⟩ : ∃ V, W4.alloc (.cells #[.int .i64 t, .int .i64 h, .int .i64 r, .slice A cs.length c, .int .u32 hist, .slice R rs.length rc] 50) = V := ⟨_, rfl⟩
      have hbv : Below W4.heap.size W4 V4 := by rw [← hV4]; exact balloc _ _
      have hxv : V4.heap[W4.heap.size]? = some (.cells #[.int .i64 t, .int .i64 h, .int .i64 r, .slice A cs.length c, .int .u32 hist, .slice R rs.length rc] 50 (0, 0)) := by rw [← hV4]; exact heap_alloc_new _ _
      have hb34 := hb4.trans (hbv.mono hb4.size)
      have HB4 := Lib.hid (HB3.out.trans (hb34.mono HB3.out.size))
      have HP4 := Lib.hid (HP3.out.below hb34)
      have HX14 := Lib.hid (belowBox hb34 HX13.out)
      have HM4 := Lib.hid hxv
      have HSM := Lib.hid (show w.heap.size + 1 < W4.heap.size ∧ W4.heap.size < V4.heap.size from ⟨by have := (Array.getElem?_eq_some_iff.1 HX13.out).1; have := hb4.size; omega, by rw [← hV4]; simp⟩)
      have q0 := (box6 (belowBox hb4 HX13.out)).1
      have q1 := (box6 (belowBox hb4 HX13.out)).2.1
      have q2 := (box6 (belowBox hb4 HX13.out)).2.2.1
      have q3 := (box6 (belowBox hb4 HX13.out)).2.2.2.1
      have q4 := (box6 (belowBox hb4 HX13.out)).2.2.2.2.1
      have q5 := (box6 (belowBox hb4 HX13.out)).2.2.2.2.2.1
      obtain ⟨p0, p1, p2, p3, p4, p5, _⟩ := box6 HX14.out
      obtain ⟨m0, m1, m2, m3, m4, m5, mf⟩ := box6 hxv
      have H1 := Lib.hid (numsR_one .i64 cs)
      have H2 := Lib.hid (numsR_one .u32 rs)
      have hlt : cs.length ≤ 300 ∧ rs.length ≤ 40 := hlight
      clear hbv hxv hb34 hb4
      go_wp2_with fail
      clear hV4 q0 q1 q2 q3 q4 q5
      have hbd : Below V4.heap.size V4 V4.drew := bdrewN (Below.refl _ _) 1
      have R0 := Lib.hid (HP4.out.below hbd)
      have hkp : ∀ W' : World, Upd (fun k => W4.heap.size ≤ k) V4 W' → W'.cell? ⟨w.heap.size + 1, 3, none⟩ = some (.slice A cs.length c) ∧ W'.cell? ⟨w.heap.size + 1, 5, none⟩ = some (.slice R rs.length rc) := fun W' hu => by
        have hx := (hu.block (w.heap.size + 1) (Array.getElem?_eq_some_iff.1 HX14.out).1 (fun (e : W4.heap.size ≤ w.heap.size + 1) => by have := HSM.out; omega)).trans HX14.out
        obtain ⟨_, _, _, e3, _, e5, _⟩ := box6 hx
        exact ⟨e3, e5⟩
      have HKP := Lib.hid hkp
      have hlv : ∀ k, V4.heap.size ≤ k → W4.heap.size ≤ k := fun k h => by have := HSM.out; omega
      have HLV := Lib.hid hlv
      clear hkp hlv
      go_region_held3 (fun W' => W'.cell? ⟨w.heap.size + 1, 3, none⟩ = some (.slice A cs.length c) ∧ W'.cell? ⟨w.heap.size + 1, 5, none⟩ = some (.slice R rs.length rc))
        (first | exact ⟨p3, p5⟩ | exact HKP.out _ ((Upd.of_below HB5.out).mono HLV.out) | exact HKP.out _ ((Upd.of_below HB6.out).mono HLV.out) | exact HKP.out _ (by (repeat refine Upd.set ?_ (Nat.le_refl _) _ _); exact (Upd.of_below HB6.out).mono HLV.out) | exact HKP.out _ (Upd.trans (by (repeat refine Upd.set ?_ (Nat.le_refl _) _ _); exact (Upd.of_below HB6.out).mono HLV.out) (Upd.drew (fun k => W4.heap.size ≤ k) _) fun _ h => .inl h))
        (first | (go_at_call 30; refine (clone_int _ _ _ _ _ R0.out.cnt R0.out.cnil H1.out (by omega)).mono ?_; rintro e W5 ⟨v1, rfl, ho1, hb5⟩; obtain ⟨A5, a5, rfl, _⟩ := own_rd ho1; have HB5 := Lib.hid (hbd.trans (hb5.mono (Nat.le_refl _))); obtain ⟨p0, p1, p2, p3, p4, p5, pf⟩ := box6 (belowBox HB5.out HX14.out); obtain ⟨m0, m1, m2, m3, m4, m5, mf⟩ := box6 (belowBox HB5.out HM4.out)) | (go_at_call 31; refine (clone_u32 _ _ _ _ _ (HP4.out.below HB5.out).ret (HP4.out.below HB5.out).rnil H2.out (by omega)).mono ?_; rintro e W6 ⟨v2, rfl, ho2, hb6⟩; obtain ⟨A6, a6, rfl, _⟩ := own_rd ho2; have HB6 := Lib.hid (HB5.out.trans (hb6.mono HB5.out.size)); obtain ⟨p0, p1, p2, p3, p4, p5, pf⟩ := box6 (belowBox HB6.out HX14.out); obtain ⟨m0, m1, m2, m3, m4, m5, mf⟩ := box6 (belowBox HB6.out HM4.out)))
      all_goals
        obtain ⟨V6, hV6⟩ : ∃ V, ((W6.setCell ⟨W4.heap.size, 3, none⟩ (.slice A5 cs.length a5)).setCell ⟨W4.heap.size, 5, none⟩ (.slice A6 rs.length a6)) = V := ⟨_, rfl⟩
        rw [hV6]
        have hu6 : Upd (fun k => k = W4.heap.size) W6 V6 := by
          rw [← hV6]
          exact ((Upd.refl (fun k => k = W4.heap.size) W6).set rfl _ _).set rfl _ _
        have hM6 : V6.heap[W4.heap.size]? = some (.cells #[.int .i64 t, .int .i64 h, .int .i64 r, .slice A5 cs.length a5, .int .u32 hist, .slice A6 rs.length a6] 50 (0, 0)) := by
          rw [← hV6]
          exact set1_heap (set1_heap (belowBox HB6.out HM4.out) 3 (.slice A5 cs.length a5)) 5 (.slice A6 rs.length a6)
        have hV4s : V4.drew.heap.size = V4.heap.size := rfl
        have hP6 : V6.heap[w.heap.size + 1]? = some (.cells #[.int .i64 t, .int .i64 h, .int .i64 r, .slice A cs.length c, .int .u32 hist, .slice R rs.length rc] 50 (0, 0)) := (hu6.block _ (Array.getElem?_eq_some_iff.1 (belowBox HB6.out HX14.out)).1 (fun (e : w.heap.size + 1 = W4.heap.size) => by have := HSM.out; omega)).trans (belowBox HB6.out HX14.out)
        have ho1' := own_upd (own_upd ho1 (Upd.of_below hb6) fun k hk h => by have := (ho1.lt k hk).2; omega) hu6 fun k hk (e : k = W4.heap.size) => by have := (ho1.lt k hk).1; have := HSM.out; omega
        have ho2' := own_upd ho2 hu6 fun k hk (e : k = W4.heap.size) => by have := (ho2.lt k hk).1; have := HSM.out; have := HB5.out.size; omega
        obtain ⟨B5, b5, e5', cap5, nil5, rd5⟩ := (OwnW.of_own ho1').slice
        obtain ⟨B6, b6, e6', cap6, nil6, rd6⟩ := (OwnW.of_own ho2').slice
        rw [nums_length] at e5' e6' cap5 cap6 rd5 rd6
        cases e5'
        cases e6'
        have HB7 := Lib.hid (HB4.out.trans ((HB6.out.mono HB4.out.size).trans (hu6.below (by have := HB4.out.size; have := HB6.out.size; omega) fun k (e : k = W4.heap.size) => by have := HSM.out; omega)))
        have HPM := Lib.hid (show RdP V6 A5 a5 cs A6 a6 rs from ⟨rd5, nil5, cap5, rd6, nil6, cap6⟩)
        have HMB := Lib.hid hM6
        have HPB := Lib.hid hP6
        obtain ⟨m0, m1, m2, m3, m4, m5, mf⟩ := box6 hM6
        clear hu6 hM6 hP6 ho1 ho2 ho1' ho2' hb5 hb6 cap5 cap6 nil5 nil6 rd5 rd6 hV4s hbd hV6 p0 p1 p2 p3 p4 p5 pf
        go_wp2_with fail
        refine (HTS.out _ _ _ _ _ 0 HPM.out).mono ?_
        rintro e W7 ⟨u, rfl, ⟨A7, c7, R7, rc7, rfl, hr7⟩, hb7⟩
        dsimp only at hr7 ⊢
        obtain ⟨V7, hV7⟩ : ∃ V, W7.alloc (.cells #[.int .i64 yt, .int .i64 yh, .int .i64 yr, .slice A7 ycs.length c7, .int .u32 yhist, .slice R7 yrs.length rc7] 50) = V := ⟨_, rfl⟩
        have hbv : Below W7.heap.size W7 V7 := by rw [← hV7]; exact balloc _ _
        have hxv : V7.heap[W7.heap.size]? = some (.cells #[.int .i64 yt, .int .i64 yh, .int .i64 yr, .slice A7 ycs.length c7, .int .u32 yhist, .slice R7 yrs.length rc7] 50 (0, 0)) := by rw [← hV7]; exact heap_alloc_new _ _
        have HV7 := Lib.hid (hb7.trans (hbv.mono hb7.size))
        have HS7 := Lib.hid (show V6.heap.size ≤ W7.heap.size ∧ W7.heap.size < V7.heap.size from ⟨hb7.size, by rw [← hV7]; simp⟩)
        have HX7 := Lib.hid hxv
        have HR7 := Lib.hid (hr7 V7 (by rw [← hV7]; exact Upd.alloc _ _ _))
        have HW7 := Lib.hid (HB7.out.trans (HV7.out.mono HB7.out.size))
        obtain ⟨p0, p1, p2, p3, p4, p5, pf⟩ := box6 (belowBox HV7.out HPB.out)
        clear m0 m1 m2 m3 m4 m5 mf hbv hxv hb7 hr7
        go_wp2_with fail
        clear hV7
        refine (HTR.out _ _ _ _ _ _ HORG.out HW7.out).mono ?_
        rintro e W8 ⟨u, rfl, ⟨A8, c8, R8, rc8, rfl, hr8⟩, hb8⟩
        dsimp only at hr8 ⊢
        obtain ⟨V8, hV8⟩ : ∃ V, W8.alloc (.cells #[.int .i64 yt, .int .i64 yh, .int .i64 yr, .slice A8 ycs.length c8, .int .u32 yhist, .slice R8 yrs.length rc8] 50) = V := ⟨_, rfl⟩
        have hbv : Below W8.heap.size W8 V8 := by rw [← hV8]; exact balloc _ _
        have hxv : V8.heap[W8.heap.size]? = some (.cells #[.int .i64 yt, .int .i64 yh, .int .i64 yr, .slice A8 ycs.length c8, .int .u32 yhist, .slice R8 yrs.length rc8] 50 (0, 0)) := by rw [← hV8]; exact heap_alloc_new _ _
        have hb78 := hb8.trans (hbv.mono hb8.size)
        have HV8 := Lib.hid (HV7.out.trans (hb78.mono HV7.out.size))
        have HS8 := Lib.hid (show W7.heap.size < W8.heap.size ∧ W8.heap.size < V8.heap.size from ⟨by have := HS7.out; have := hb8.size; omega, by rw [← hV8]; simp⟩)
        have HX78 := Lib.hid (belowBox hb78 HX7.out)
        have HX8 := Lib.hid hxv
        have hq8 := hr8 V8 (by rw [← hV8]; exact Upd.alloc _ _ _)
        have HSP := Lib.hid (samePred_true yt yh yr A7 A8 R7 R8 c7 c8 rc7 rc8 ycs yrs yhist V8 (Rd.below HR7.out.1 hb78) hq8.1 (Rd.below HR7.out.2 hb78) hq8.2)
        obtain ⟨a0, a1, a2, a3, a4, a5', af⟩ := box6 HX78.out
        obtain ⟨b0, b1, b2, b3, b4, b5', bf⟩ := box6 hxv
        clear p0 p1 p2 p3 p4 p5 pf hbv hxv hb78 hb8 hr8 hq8
        go_wp2_with fail
        clear hV8
        refine HSP.out.mono ?_
        rintro e W9 ⟨rfl, hb9⟩
        have HV9 := Lib.hid (HV8.out.trans (hb9.mono HV8.out.size))
        have HS9 := Lib.hid (show W8.heap.size < W9.heap.size by have := HS8.out; have := hb9.size; omega)
        have HX79 := Lib.hid (belowBox hb9 HX78.out)
        have HX89 := Lib.hid (belowBox hb9 HX8.out)
        obtain ⟨m0, m1, m2, m3, m4, m5, mf⟩ := box6 (belowBox HV9.out HMB.out)
        clear a0 a1 a2 a3 a4 a5' af b0 b1 b2 b3 b4 b5' bf hb9
        go_wp2_with fail
        have HSX9 := Lib.hid (Nat.le_refl W9.heap.size)
        refine (HCS.out _ _ _ _ _ 0 (HPM.out.below HV9.out)).mono ?_
        rintro e W10 ⟨u, rfl, ⟨A10, c10, R10, rc10, rfl, hr10⟩, hb10⟩
        dsimp only at hr10 ⊢
        have HX710 := Lib.hid (belowBox hb10 HX79.out)
        have HX810 := Lib.hid (belowBox hb10 HX89.out)
        obtain ⟨V10, hV10⟩ : ∃ V, ((((((W10.setCell ⟨W7.heap.size, 0, none⟩ (.int .i64 zt)).setCell ⟨W7.heap.size, 1, none⟩ (.int .i64 zh)).setCell ⟨W7.heap.size, 2, none⟩ (.int .i64 zr)).setCell ⟨W7.heap.size, 3, none⟩ (.slice A10 zcs.length c10)).setCell ⟨W7.heap.size, 4, none⟩ (.int .u32 zhist)).setCell ⟨W7.heap.size, 5, none⟩ (.slice R10 zrs.length rc10)) = V := ⟨_, rfl⟩
        have hu10 : Upd (fun k => k = W7.heap.size) W10 V10 := by rw [← hV10]; exact uset6 W10 W7.heap.size _ _ _ _ _ _
        have hx7v : V10.heap[W7.heap.size]? = some (.cells #[.int .i64 zt, .int .i64 zh, .int .i64 zr, .slice A10 zcs.length c10, .int .u32 zhist, .slice R10 zrs.length rc10] 50 (0, 0)) := by rw [← hV10]; exact set6_heap HX710.out _ _ _ _ _ _
        have hvv : Below V6.heap.size V6 V10 := by rw [← hV10]; exact bset6 (HV9.out.trans (hb10.mono HV9.out.size)) HS7.out.1 _ _ _ _ _ _
        have HV10 := Lib.hid hvv
        have HW10 := Lib.hid (HB7.out.trans (hvv.mono HB7.out.size))
        have hx8v := (hu10.block W8.heap.size (Array.getElem?_eq_some_iff.1 HX810.out).1 (fun (e : W8.heap.size = W7.heap.size) => by have := HS8.out; omega)).trans HX810.out
        have HS10 := Lib.hid (Nat.le_trans hb10.size hu10.size)
        have HU10 := Lib.hid hu10
        have HR10 := Lib.hid hr10
        have HY710 := Lib.hid hx7v
        have HY810 := Lib.hid hx8v
        obtain ⟨a0, a1, a2, a3, a4, a5', af⟩ := box6 HX710.out
        obtain ⟨p0, p1, p2, p3, p4, p5, pf⟩ := box6 (belowBox hvv HPB.out)
        clear m0 m1 m2 m3 m4 m5 mf hu10 hx7v hvv hx8v hr10 hb10
        go_wp2_with fail
        clear hV10
        refine (HCR.out _ _ _ _ _ _ HORG.out HW10.out).mono ?_
        rintro e W11 ⟨u, rfl, ⟨A11, c11, R11, rc11, rfl, hr11⟩, hb11⟩
        dsimp only at hr11 ⊢
        have HX811 := Lib.hid (belowBox hb11 HY810.out)
        have hx7w := belowBox hb11 HY710.out
        obtain ⟨V11, hV11⟩ : ∃ V, ((((((W11.setCell ⟨W8.heap.size, 0, none⟩ (.int .i64 zt)).setCell ⟨W8.heap.size, 1, none⟩ (.int .i64 zh)).setCell ⟨W8.heap.size, 2, none⟩ (.int .i64 zr)).setCell ⟨W8.heap.size, 3, none⟩ (.slice A11 zcs.length c11)).setCell ⟨W8.heap.size, 4, none⟩ (.int .u32 zhist)).setCell ⟨W8.heap.size, 5, none⟩ (.slice R11 zrs.length rc11)) = V := ⟨_, rfl⟩
        have hu11 : Upd (fun k => k = W8.heap.size) W11 V11 := by rw [← hV11]; exact uset6 W11 W8.heap.size _ _ _ _ _ _
        have hx8v : V11.heap[W8.heap.size]? = some (.cells #[.int .i64 zt, .int .i64 zh, .int .i64 zr, .slice A11 zcs.length c11, .int .u32 zhist, .slice R11 zrs.length rc11] 50 (0, 0)) := by rw [← hV11]; exact set6_heap HX811.out _ _ _ _ _ _
        have hvv : Below V6.heap.size V6 V11 := by rw [← hV11]; exact bset6 (HV10.out.trans (hb11.mono HV10.out.size)) (by have := HS7.out; have := HS8.out; omega) _ _ _ _ _ _
        have HV11 := Lib.hid hvv
        have hx7v := (hu11.block W7.heap.size (Array.getElem?_eq_some_iff.1 hx7w).1 (fun (e : W7.heap.size = W8.heap.size) => by have := HS8.out; omega)).trans hx7w
        have hq1 := HR10.out V11 (((HU10.out.mono (G := fun k => 0 ≤ k ∧ k < W9.heap.size) fun k (e : k = W7.heap.size) => by have := HS8.out; have := HS9.out; have := HSX9.out; omega).trans (Upd.of_below hb11) fun k (e : V10.heap.size ≤ k) => .inr (Nat.le_trans HU10.out.size e)).trans hu11 fun k (e : k = W8.heap.size) => .inl (by have := HS9.out; have := HSX9.out; omega))
        have hq2 := hr11 V11 (hu11.mono (G := fun k => w.heap.size ≤ k ∧ k < V10.heap.size) fun k (e : k = W8.heap.size) => by have := HS9.out; have := HSX9.out; have := HS10.out; have := HS7.out; have := HS8.out; have := HB7.out.size; omega)
        have HSP11 := Lib.hid (samePred_true zt zh zr A10 A11 R10 R11 c10 c11 rc10 rc11 zcs zrs zhist V11 hq1.1 hq2.1 hq1.2 hq2.2)
        have HY711 := Lib.hid hx7v
        have HY811 := Lib.hid hx8v
        have HSW11 := Lib.hid (show W9.heap.size ≤ V11.heap.size by have := HSX9.out; have := HS10.out; have := hb11.size; have := hu11.size; omega)
        obtain ⟨b0, b1, b2, b3, b4, b5', bf⟩ := box6 HX811.out
        obtain ⟨g0, g1, g2, g3, g4, g5, gf⟩ := box6 hx7v
        obtain ⟨k0, k1, k2, k3, k4, k5, kf⟩ := box6 hx8v
        clear a0 a1 a2 a3 a4 a5' af p0 p1 p2 p3 p4 p5 pf hu11 hx7v hvv hx8v hr11 hb11 hx7w hq1 hq2
        go_wp2_with fail
        clear hV11
        refine HSP11.out.mono ?_
        clear b0 b1 b2 b3 b4 b5' bf g0 g1 g2 g3 g4 g5 gf k0 k1 k2 k3 k4 k5 kf
        rintro e W12 ⟨rfl, hb12⟩
        have HV12 := Lib.hid (HV11.out.trans (hb12.mono HV11.out.size))
        have HSX12 := Lib.hid (Nat.le_trans HSW11.out hb12.size)
        have HX712 := Lib.hid (belowBox hb12 HY711.out)
        have HX812 := Lib.hid (belowBox hb12 HY811.out)
        obtain ⟨m0, m1, m2, m3, m4, m5, mf⟩ := box6 (belowBox HV12.out HMB.out)
        clear hb12
        go_wp2_with fail
        refine (HES.out _ _ _ _ _ 0 (HPM.out.below HV12.out)).mono ?_
        rintro e W13 ⟨u, rfl, ⟨A13, c13, R13, rc13, rfl, hr13⟩, hb13⟩
        dsimp only at hr13 ⊢
        have HX713 := Lib.hid (belowBox hb13 HX712.out)
        have HX813 := Lib.hid (belowBox hb13 HX812.out)
        obtain ⟨V13, hV13⟩ : ∃ V, ((((((W13.setCell ⟨W7.heap.size, 0, none⟩ (.int .i64 ut)).setCell ⟨W7.heap.size, 1, none⟩ (.int .i64 uh)).setCell ⟨W7.heap.size, 2, none⟩ (.int .i64 ur)).setCell ⟨W7.heap.size, 3, none⟩ (.slice A13 ucs.length c13)).setCell ⟨W7.heap.size, 4, none⟩ (.int .u32 uhist)).setCell ⟨W7.heap.size, 5, none⟩ (.slice R13 urs.length rc13)) = V := ⟨_, rfl⟩
        have hu13 : Upd (fun k => k = W7.heap.size) W13 V13 := by rw [← hV13]; exact uset6 W13 W7.heap.size _ _ _ _ _ _
        have hx7v : V13.heap[W7.heap.size]? = some (.cells #[.int .i64 ut, .int .i64 uh, .int .i64 ur, .slice A13 ucs.length c13, .int .u32 uhist, .slice R13 urs.length rc13] 50 (0, 0)) := by rw [← hV13]; exact set6_heap HX713.out _ _ _ _ _ _
        have hvv : Below V6.heap.size V6 V13 := by rw [← hV13]; exact bset6 (HV12.out.trans (hb13.mono HV12.out.size)) HS7.out.1 _ _ _ _ _ _
        have HV13 := Lib.hid hvv
        have HW13 := Lib.hid (HB7.out.trans (hvv.mono HB7.out.size))
        have hx8v := (hu13.block W8.heap.size (Array.getElem?_eq_some_iff.1 HX813.out).1 (fun (e : W8.heap.size = W7.heap.size) => by have := HS8.out; omega)).trans HX813.out
        have HS13 := Lib.hid (Nat.le_trans hb13.size hu13.size)
        have HU13 := Lib.hid hu13
        have HR13 := Lib.hid hr13
        have HY713 := Lib.hid hx7v
        have HY813 := Lib.hid hx8v
        obtain ⟨a0, a1, a2, a3, a4, a5', af⟩ := box6 HX713.out
        obtain ⟨p0, p1, p2, p3, p4, p5, pf⟩ := box6 (belowBox hvv HPB.out)
        clear m0 m1 m2 m3 m4 m5 mf hu13 hx7v hvv hx8v hr13 hb13
        go_wp2_with fail
        clear hV13
        refine (HER.out _ _ _ _ _ _ HORG.out HW13.out).mono ?_
        rintro e W14 ⟨u, rfl, ⟨A14, c14, R14, rc14, rfl, hr14⟩, hb14⟩
        dsimp only at hr14 ⊢
        have HX814 := Lib.hid (belowBox hb14 HY813.out)
        have hx7w := belowBox hb14 HY713.out
        obtain ⟨V14, hV14⟩ : ∃ V, ((((((W14.setCell ⟨W8.heap.size, 0, none⟩ (.int .i64 ut)).setCell ⟨W8.heap.size, 1, none⟩ (.int .i64 uh)).setCell ⟨W8.heap.size, 2, none⟩ (.int .i64 ur)).setCell ⟨W8.heap.size, 3, none⟩ (.slice A14 ucs.length c14)).setCell ⟨W8.heap.size, 4, none⟩ (.int .u32 uhist)).setCell ⟨W8.heap.size, 5, none⟩ (.slice R14 urs.length rc14)) = V := ⟨_, rfl⟩
        have hu14 : Upd (fun k => k = W8.heap.size) W14 V14 := by rw [← hV14]; exact uset6 W14 W8.heap.size _ _ _ _ _ _
        have hx8v : V14.heap[W8.heap.size]? = some (.cells #[.int .i64 ut, .int .i64 uh, .int .i64 ur, .slice A14 ucs.length c14, .int .u32 uhist, .slice R14 urs.length rc14] 50 (0, 0)) := by rw [← hV14]; exact set6_heap HX814.out _ _ _ _ _ _
        have hvv : Below V6.heap.size V6 V14 := by rw [← hV14]; exact bset6 (HV13.out.trans (hb14.mono HV13.out.size)) (by have := HS7.out; have := HS8.out; omega) _ _ _ _ _ _
        have HV14 := Lib.hid hvv
        have hx7v := (hu14.block W7.heap.size (Array.getElem?_eq_some_iff.1 hx7w).1 (fun (e : W7.heap.size = W8.heap.size) => by have := HS8.out; omega)).trans hx7w
        have hq1 := HR13.out V14 (((HU13.out.mono (G := fun k => 0 ≤ k ∧ k < W12.heap.size) fun k (e : k = W7.heap.size) => by have := HS8.out; have := HS9.out; have := HSX12.out; omega).trans (Upd.of_below hb14) fun k (e : V13.heap.size ≤ k) => .inr (Nat.le_trans HU13.out.size e)).trans hu14 fun k (e : k = W8.heap.size) => .inl (by have := HS9.out; have := HSX12.out; omega))
        have hq2 := hr14 V14 (hu14.mono (G := fun k => w.heap.size ≤ k ∧ k < V13.heap.size) fun k (e : k = W8.heap.size) => by have := HS9.out; have := HSX12.out; have := HS13.out; have := HS7.out; have := HS8.out; have := HB7.out.size; omega)
        have HSP14 := Lib.hid (samePred_true ut uh ur A13 A14 R13 R14 c13 c14 rc13 rc14 ucs urs uhist V14 hq1.1 hq2.1 hq1.2 hq2.2)
        have HY714 := Lib.hid hx7v
        have HY814 := Lib.hid hx8v
        have HSW14 := Lib.hid (show W9.heap.size ≤ V14.heap.size by have := HSX12.out; have := HS13.out; have := hb14.size; have := hu14.size; omega)
        obtain ⟨b0, b1, b2, b3, b4, b5', bf⟩ := box6 HX814.out
        obtain ⟨g0, g1, g2, g3, g4, g5, gf⟩ := box6 hx7v
        obtain ⟨k0, k1, k2, k3, k4, k5, kf⟩ := box6 hx8v
        clear a0 a1 a2 a3 a4 a5' af p0 p1 p2 p3 p4 p5 pf hu14 hx7v hvv hx8v hr14 hb14 hx7w hq1 hq2
        go_wp2_with fail
        clear hV14
        refine HSP14.out.mono ?_
        clear b0 b1 b2 b3 b4 b5' bf g0 g1 g2 g3 g4 g5 gf k0 k1 k2 k3 k4 k5 kf
        rintro e W15 ⟨rfl, hb15⟩
        have HV15 := Lib.hid (HV14.out.trans (hb15.mono HV14.out.size))
        obtain ⟨m0, m1, m2, m3, m4, m5, mf⟩ := box6 (belowBox HV15.out HMB.out)
        obtain ⟨p0, p1, p2, p3, p4, p5, pf⟩ := box6 (belowBox HV15.out HPB.out)
        have hpm := HPM.out.below HV15.out
        have hpp := HORG.out.below (HB7.out.trans (HV15.out.mono HB7.out.size))
        have HFIN := Lib.hid (samePred_true t h r A5 A A6 R a5 c a6 rc cs rs hist W15 hpm.cnt hpp.cnt hpm.ret hpp.ret)
        clear hb15 hpm hpp
        go_wp2_with fail
        refine HFIN.out.mono ?_
        rintro e W16 ⟨rfl, hb16⟩
        clear m0 m1 m2 m3 m4 m5 mf p0 p1 p2 p3 p4 p5 pf
        go_wp2_with fail
        go_ret
        exact ⟨rfl, (HB7.out.trans (HV15.out.mono HB7.out.size)).trans (hb16.mono (by have := HB7.out.size; have := HV15.out.size; omega))⟩
end Go.Proofs.YtdkacdfhapgboaaGreat
