/- The specification's predictor: its shape, its check, the index of a branch's counter. -/
import Derived.Test.YtdkacdfhapgboaaGreatM11
import Derived.IntWalk
import Derived.StillTail
import Derived.OwnWalk
import Derived.Lib.AppendZeros
import Derived.Maps.AppendAt
import Derived.Lib.SmallJoins
import Derived.Deep.Matrix
set_option linter.unusedVariables false
set_option linter.unusedSimpArgs false
namespace Go.Proofs.YtdkacdfhapgboaaGreat
open Go.RowKit

set_option maxHeartbeats 1000000 in
theorem rPredShape_any (a b c : Int) (w : World) : Calls Tryz.prog 65 #[.agg #[.int .i64 a, .int .i64 b, .int .i64 c]] w fun e w' => e = .returned (.bool (predShapeB a b c)) ∧ Below w.heap.size w w' := by
  cases h1 : decide (0 ≤ a) <;> cases h2 : decide (a ≤ 12) <;> cases h3 : decide (0 ≤ b) <;> cases h4 : decide (b ≤ 12) <;> cases h5 : decide (0 ≤ c) <;> cases h6 : decide (c ≤ 32)
  all_goals
    go_enter Tryz.func65, Tryz.ntmps65
    go_wp2
    go_ret
    exact ⟨by simp only [predShapeB, h1, h2, h3, h4, h5, h6]; rfl, balloc w _⟩

theorem pow_wrap (t : Nat) (ht : t ≤ 12) : ∃ n : Nat, 2 ^ t = n ∧ 1 ≤ n ∧ n ≤ 4096 ∧ IntKind.i64.wrap ((2 : Int) ^ t) = (n : Int) ∧ IntKind.u32.wrap ((2 : Int) ^ t) = (n : Int) ∧ (2 : Int) ^ t = (n : Int) := by
  obtain ⟨m, hm⟩ : ∃ m : Nat, 2 ^ t = m := ⟨_, rfl⟩
  have h4 : m ≤ 4096 := by rw [← hm]; have := Nat.pow_le_pow_right (show 0 < 2 by omega) ht; simpa using this
  have h1 : 1 ≤ m := by rw [← hm]; exact Nat.one_le_two_pow
  have e : (2 : Int) ^ t = (m : Int) := by rw [← hm]; simp
  exact ⟨m, hm, h1, h4, by rw [e]; exact IntWalk.i64_in _ (by omega), by rw [e]; exact IntWalk.u32_in _ (by omega), e⟩

set_option maxRecDepth 100000 in
set_option maxHeartbeats 2000000 in
theorem rIsPred_any (t h r : Int) (A : Option Addr) (c : Nat) (cs : List Int) (hist : Int) (R : Option Addr) (rs : List Int) (rc : Nat) (w : World) (hc : RdI w .i64 A cs.length cs) (hh : 0 ≤ hist ∧ hist < 4294967296) :
    Calls Tryz.prog 67 #[.agg #[.int .i64 t, .int .i64 h, .int .i64 r, .slice A cs.length c, .int .u32 hist, .slice R rs.length rc]] w fun e w' => e = .returned (.bool (decide (predOk t h r cs hist rs))) ∧ Below w.heap.size w w' := by
  obtain ⟨h1, h2⟩ := hh
  obtain ⟨W0, hW0⟩ : ∃ W0, w.alloc (.cells #[.int .i64 t, .int .i64 h, .int .i64 r, .slice A cs.length c, .int .u32 hist, .slice R rs.length rc] 50) = W0 := ⟨_, rfl⟩
  have hb0 : Below w.heap.size w W0 := by rw [← hW0]; exact balloc w _
  have hx0 : W0.heap[w.heap.size]? = some (.cells #[.int .i64 t, .int .i64 h, .int .i64 r, .slice A cs.length c, .int .u32 hist, .slice R rs.length rc] 50 (0, 0)) := by rw [← hW0]; exact heap_alloc_new w _
  obtain ⟨c0, c1, c2, c3, c4, c5, _⟩ := box6 hx0
  have k0 := After.cell c0
  have k1 := After.cell c1
  have k2 := After.cell c2
  have k3 := After.cell c3
  have k4 := After.cell c4
  have k5 := After.cell c5
  have HX := Lib.hid hx0
  have HB0 := Lib.hid hb0
  have HC := Lib.hid (show RdI W0 .i64 A cs.length cs from Rd.below hc hb0)
  have hcl := hc.le
  clear hc hx0 hb0
  cases hs : predShapeB t h r
  · have hf : decide (predOk t h r cs hist rs) = false := by simp [predOk, hs]
    rw [hf]
    have HP := Lib.hid (show ∀ W, Calls Tryz.prog 65 #[.agg #[.int .i64 t, .int .i64 h, .int .i64 r]] W fun e w' => e = .returned (.bool false) ∧ Below W.heap.size W w' from fun W => by rw [← hs]; exact rPredShape_any t h r W)
    go_enter Tryz.func67, Tryz.ntmps67
    go_wp2_with fail
    refine region_after (Below.refl W0.heap.size W0) (by kernel_rfl) (by kernel_rfl) ?_
    repeat (go_big_quiet_step (first
      | (go_at_call 65; exact calls_after (Nat.le_refl _) (HP.out _))))
    refine wpQuiet_nil ?_
    intro _ hw'
    obtain ⟨nq, hw''⟩ := hw'
    subst hw''
    go_wp2
    go_ret
    exact ⟨rfl, HB0.out.trans (nq.below.mono HB0.out.size)⟩
  · obtain ⟨t1, t2, u1, u2, r1, r2⟩ := predShapeB_le hs
    obtain ⟨t, rfl⟩ := Int.eq_ofNat_of_zero_le t1
    obtain ⟨h, rfl⟩ := Int.eq_ofNat_of_zero_le u1
    have HP := Lib.hid (show ∀ W, Calls Tryz.prog 65 #[.agg #[.int .i64 (t : Int), .int .i64 (h : Int), .int .i64 r]] W fun e w' => e = .returned (.bool true) ∧ Below W.heap.size W w' from fun W => by rw [← hs]; exact rPredShape_any t h r W)
    obtain ⟨N, _, N1, N2, hN, _, hN2⟩ := pow_wrap t (by omega)
    obtain ⟨M, _, M1, M2, _, hM, hM2⟩ := pow_wrap h (by omega)
    have hok : decide (predOk t h r cs hist rs) = ((decide (cs.length = N) && (decide (hist < (M : Int)) && decide ((rs.length : Int) ≤ r))) && !(cs.any badN)) := by
      simp only [predOk, hs, Int.toNat_natCast, true_and, hN2, hM2]
      cases cs.any badN <;> simp [Bool.decide_and]
      norm_cast
    rw [hok]
    clear hok hN2 hM2 hs
    have hbad : ∀ (g1 g2 g3 : Bool), (g1 && (g2 && g3)) = false → ((g1 && (g2 && g3)) && !(cs.any badN)) = false := fun g1 g2 g3 h => by rw [h]; rfl
    by_cases q1 : cs.length = N
    · subst q1
      by_cases q2 : hist < (M : Int)
      · by_cases q3 : (rs.length : Int) ≤ r
        · have q4 : decide (r < (rs.length : Int)) = false := decide_eq_false (by omega)
          have q5 : decide ((M : Int) ≤ hist) = false := decide_eq_false (by omega)
          rw [decide_eq_true rfl, decide_eq_true q2, decide_eq_true q3]
          go_enter Tryz.func67, Tryz.ntmps67
          go_wp2_with fail
          refine region_after (Below.refl W0.heap.size W0) (by kernel_rfl) (by kernel_rfl) ?_
          repeat (go_big_quiet_step (first
            | (go_at_call 65; exact calls_after (Nat.le_refl _) (HP.out _))))
          refine wpQuiet_nil ?_
          intro _ hw'
          obtain ⟨nq, hw''⟩ := hw'
          subst hw''
          clear k0 k1 k2 k3 k4 k5
          have hb1 := nq.below
          obtain ⟨W1, hW1⟩ : ∃ W, nq.W = W := ⟨_, rfl⟩
          rw [hW1] at hb1
          rw [hW1]
          obtain ⟨c0, c1, c2, c3, c4, c5, _⟩ := box6 (belowBox hb1 HX.out)
          have HC1 := Lib.hid (show RdI W1 .i64 A cs.length cs from Rd.below HC.out hb1)
          have HB1 := Lib.hid (HB0.out.trans (hb1.mono HB0.out.size))
          clear hW1 nq hb1
          go_wp2_with fail
          go_loop [3] (fun i => ∃ k : Nat, k ≤ cs.length ∧ i = .int .i64 k ∧ Hid (∀ j, j < k → badN (gi cs j) = false)) (fun i => cs.length - (intOf i).toNat)
          case atStart => exact ⟨0, Nat.zero_le _, rfl, Lib.hid (fun j hj => absurd hj (Nat.not_lt_zero _))⟩
          case round =>
            obtain ⟨k, hk, rfl, hno⟩ := hrel
            by_cases hlt : k < cs.length
            · obtain ⟨ad, rfl, hx⟩ := RdI.at HC1.out k hlt
              obtain ⟨x, hxx⟩ : ∃ x, gi cs k = x := ⟨_, rfl⟩
              rw [hxx] at hx
              have HXX := Lib.hid hxx
              clear hxx
              have hbadx : badN x = true → cs.any badN = true := fun h => List.any_eq_true.2 ⟨x, by rw [← HXX.out]; exact gi_mem cs k hlt, h⟩
              have HBX := Lib.hid hbadx
              clear hbadx
              by_cases p1 : x < 0
              · have HBB := Lib.hid (HBX.out (by simp [badN, p1]))
                go_wp2_with fail
                go_ret
                exact ⟨by rw [HBB.out]; rfl, HB1.out⟩
              · by_cases p2 : 3 < x
                · have HBB := Lib.hid (HBX.out (by simp [badN, p2]))
                  go_wp2_with fail
                  go_ret
                  exact ⟨by rw [HBB.out]; rfl, HB1.out⟩
                · have HNB := Lib.hid (show badN x = false by simp [badN]; omega)
                  go_wp2_with fail
                  go_round
                  case rel =>
                    refine ⟨k + 1, by omega, by go_num, fun j hj => ?_⟩
                    rcases Nat.lt_succ_iff_lt_or_eq.1 hj with h | rfl
                    · exact hno.out j h
                    · rw [HXX.out]; exact HNB.out
                  case measure => simp [intOf]; omega
            · have hall : cs.any badN = false := by
                rw [List.any_eq_false]
                intro y hy
                obtain ⟨j, hj, rfl⟩ := List.getElem_of_mem hy
                have := hno.out j (by omega)
                rw [gi_get cs j hj] at this
                simp [this]
              have HALL := Lib.hid hall
              clear hall
              go_wp2_with fail
              go_ret
              exact ⟨by rw [HALL.out]; rfl, HB1.out⟩
        · have q4 : decide (r < (rs.length : Int)) = true := decide_eq_true (by omega)
          have q5 : decide ((M : Int) ≤ hist) = false := decide_eq_false (by omega)
          rw [hbad _ _ _ (by rw [decide_eq_false q3]; simp)]
          go_enter Tryz.func67, Tryz.ntmps67
          go_wp2_with fail
          refine region_after (Below.refl W0.heap.size W0) (by kernel_rfl) (by kernel_rfl) ?_
          repeat (go_big_quiet_step (first
            | (go_at_call 65; exact calls_after (Nat.le_refl _) (HP.out _))))
          refine wpQuiet_nil ?_
          intro _ hw'
          obtain ⟨nq, hw''⟩ := hw'
          subst hw''
          go_wp2
          go_ret
          exact ⟨rfl, HB0.out.trans (nq.below.mono HB0.out.size)⟩
      · have q5 : (M : Int) ≤ hist := by omega
        rw [hbad _ _ _ (by rw [decide_eq_false q2]; simp)]
        go_enter Tryz.func67, Tryz.ntmps67
        go_wp2_with fail
        refine region_after (Below.refl W0.heap.size W0) (by kernel_rfl) (by kernel_rfl) ?_
        repeat (go_big_quiet_step (first
          | (go_at_call 65; exact calls_after (Nat.le_refl _) (HP.out _))))
        refine wpQuiet_nil ?_
        intro _ hw'
        obtain ⟨nq, hw''⟩ := hw'
        subst hw''
        go_wp2
        go_ret
        exact ⟨rfl, HB0.out.trans (nq.below.mono HB0.out.size)⟩
    · have q6 : ((cs.length : Int) == (N : Int)) = false := by simp; omega
      have q7 : ((cs.length : Int) != (N : Int)) = true := by simp; omega
      rw [hbad _ _ _ (by rw [decide_eq_false q1]; simp)]
      go_enter Tryz.func67, Tryz.ntmps67
      go_wp2_with fail
      refine region_after (Below.refl W0.heap.size W0) (by kernel_rfl) (by kernel_rfl) ?_
      repeat (go_big_quiet_step (first
        | (go_at_call 65; exact calls_after (Nat.le_refl _) (HP.out _))))
      refine wpQuiet_nil ?_
      intro _ hw'
      obtain ⟨nq, hw''⟩ := hw'
      subst hw''
      go_wp2
      go_ret
      exact ⟨rfl, HB0.out.trans (nq.below.mono HB0.out.size)⟩

theorem rCheckPred_any (t h r : Int) (A : Option Addr) (c : Nat) (cs : List Int) (hist : Int) (R : Option Addr) (rs : List Int) (rc : Nat) (w : World) (hc : RdI w .i64 A cs.length cs) (hh : 0 ≤ hist ∧ hist < 4294967296) :
    Calls Tryz.prog 27 #[.agg #[.int .i64 t, .int .i64 h, .int .i64 r, .slice A cs.length c, .int .u32 hist, .slice R rs.length rc]] w fun e w' => e = .returned (.int .i64 (if predOk t h r cs hist rs then 0 else 330)) ∧ Below w.heap.size w w' := by
  obtain ⟨W0, hW0⟩ : ∃ W0, w.alloc (.cells #[.int .i64 t, .int .i64 h, .int .i64 r, .slice A cs.length c, .int .u32 hist, .slice R rs.length rc] 50) = W0 := ⟨_, rfl⟩
  have hb0 : Below w.heap.size w W0 := by rw [← hW0]; exact balloc w _
  have hx0 : W0.heap[w.heap.size]? = some (.cells #[.int .i64 t, .int .i64 h, .int .i64 r, .slice A cs.length c, .int .u32 hist, .slice R rs.length rc] 50 (0, 0)) := by rw [← hW0]; exact heap_alloc_new w _
  obtain ⟨c0, c1, c2, c3, c4, c5, _⟩ := box6 hx0
  have HC := Lib.hid (Rd.below hc hb0)
  clear hc hx0
  by_cases hq : predOk t h r cs hist rs
  · have HQ := Lib.hid (decide_eq_true hq)
    rw [if_pos hq]
    clear hq
    go_enter Tryz.func27, Tryz.ntmps27
    go_wp2_with fail
    refine (rIsPred_any t h r A c cs hist R rs rc _ HC.out hh).mono ?_
    rintro e W ⟨rfl, hb⟩
    rw [HQ.out]
    go_wp2
    go_ret
    exact ⟨rfl, bvia hb0 hb (Nat.le_refl _)⟩
  · have HQ := Lib.hid (decide_eq_false hq)
    rw [if_neg hq]
    clear hq
    go_enter Tryz.func27, Tryz.ntmps27
    go_wp2_with fail
    refine (rIsPred_any t h r A c cs hist R rs rc _ HC.out hh).mono ?_
    rintro e W ⟨rfl, hb⟩
    rw [HQ.out]
    go_wp2
    go_ret
    exact ⟨rfl, bvia hb0 hb (Nat.le_refl _)⟩
end Go.Proofs.YtdkacdfhapgboaaGreat

/- The specification's predictor: the index of a branch's counter, Predict, Train. -/
set_option linter.unusedVariables false
set_option linter.unusedSimpArgs false
namespace Go.Proofs.YtdkacdfhapgboaaGreat
open Go.RowKit

set_option maxRecDepth 100000 in
set_option maxHeartbeats 1000000 in
theorem rIndex_any (t : Nat) (h r : Int) (A : Option Addr) (c n : Nat) (hist : Int) (R : Option Addr) (rl rc : Nat) (pc : Int) (w : World) (ht : t ≤ 12) (N : Nat) (hN : 2 ^ t = N) (hh : 0 ≤ hist ∧ hist < 4294967296) (hp : 0 ≤ pc ∧ pc < 4294967296) :
    Calls Tryz.prog 69 #[.agg #[.int .i64 (t : Int), .int .i64 h, .int .i64 r, .slice A n c, .int .u32 hist, .slice R rl rc], .int .u32 pc] w fun e w' => e = .returned (.int .i64 (ctrI pc hist N)) ∧ Below w.heap.size w w' := by
  obtain ⟨p1, p2⟩ := hp
  obtain ⟨N', hN', N1, N2, _, hw, _⟩ := pow_wrap t ht
  obtain rfl : N' = N := hN'.symm.trans hN
  obtain ⟨x, hx⟩ : ∃ x, bits .xor .u32 (pc / 4) hist = x := ⟨_, rfl⟩
  obtain ⟨x1, x2⟩ : 0 ≤ x ∧ x < 4294967296 := hx ▸ bits_u32_range _ _ _
  obtain ⟨y, hy⟩ : ∃ y, x % (N' : Int) = y := ⟨_, rfl⟩
  have hc : ctrI pc hist N' = y := by unfold ctrI; rw [hx, hy]
  obtain ⟨y1, y2⟩ := ctrI_range pc hist N' (by omega)
  rw [hc] at y1 y2 ⊢
  have hxt : x.tmod (N' : Int) = y := by rw [Int.tmod_eq_emod_of_nonneg x1, hy]
  have hn0 : (1 : Int) ≤ (N' : Int) := by omega
  have hn1 : ¬ (N' : Int) = 0 := by omega
  have hyw : IntKind.i64.wrap y = y := IntWalk.i64_in _ (by omega)
  have hyu : IntKind.u32.wrap y = y := IntWalk.u32_in _ (by omega)
  obtain ⟨W0, hW0⟩ : ∃ W0, w.alloc (.cells #[.int .i64 (t : Int), .int .i64 h, .int .i64 r, .slice A n c, .int .u32 hist, .slice R rl rc] 50) = W0 := ⟨_, rfl⟩
  have hb0 : Below w.heap.size w W0 := by rw [← hW0]; exact balloc w _
  have hx0 : W0.heap[w.heap.size]? = some (.cells #[.int .i64 (t : Int), .int .i64 h, .int .i64 r, .slice A n c, .int .u32 hist, .slice R rl rc] 50 (0, 0)) := by rw [← hW0]; exact heap_alloc_new w _
  obtain ⟨c0, c1, c2, c3, c4, c5, _⟩ := box6 hx0
  have HB0 := Lib.hid hb0
  clear hc hy hN hN' hx0 hb0
  go_enter Tryz.func69, Tryz.ntmps69
  go_wp2_with fail
  go_quiet (fail)
  go_wp2
  go_ret
  exact ⟨rfl, bdrewN HB0.out _⟩

set_option maxRecDepth 100000 in
set_option maxHeartbeats 1000000 in
theorem rPredict_any (t h r : Int) (A : Option Addr) (c : Nat) (cs : List Int) (hist : Int) (R : Option Addr) (rs : List Int) (rc : Nat) (pc : Int) (w : World) (hc : RdI w .i64 A cs.length cs) (hh : 0 ≤ hist ∧ hist < 4294967296) (hp : 0 ≤ pc ∧ pc < 4294967296) :
    Calls Tryz.prog 29 #[.agg #[.int .i64 t, .int .i64 h, .int .i64 r, .slice A cs.length c, .int .u32 hist, .slice R rs.length rc], .int .u32 pc] w fun e w' => e = .returned (.bool (predictB t h r cs hist rs pc)) ∧ Below w.heap.size w w' := by
  obtain ⟨W0, hW0⟩ : ∃ W0, w.alloc (.cells #[.int .i64 t, .int .i64 h, .int .i64 r, .slice A cs.length c, .int .u32 hist, .slice R rs.length rc] 50) = W0 := ⟨_, rfl⟩
  have hb0 : Below w.heap.size w W0 := by rw [← hW0]; exact balloc w _
  have hx0 : W0.heap[w.heap.size]? = some (.cells #[.int .i64 t, .int .i64 h, .int .i64 r, .slice A cs.length c, .int .u32 hist, .slice R rs.length rc] 50 (0, 0)) := by rw [← hW0]; exact heap_alloc_new w _
  obtain ⟨c0, c1, c2, c3, c4, c5, _⟩ := box6 hx0
  have k0 := After.cell c0
  have k1 := After.cell c1
  have k2 := After.cell c2
  have k3 := After.cell c3
  have k4 := After.cell c4
  have k5 := After.cell c5
  have HB0 := Lib.hid hb0
  have HC := Lib.hid (show RdI W0 .i64 A cs.length cs from Rd.below hc hb0)
  clear hc hx0 hb0
  unfold predictB
  by_cases hq : predOk t h r cs hist rs
  · have HPI := Lib.hid (fun q : After W0.heap.size W0 => rIsPred_any t h r A c cs hist R rs rc q.W (Rd.below HC.out q.below) hh)
    rw [decide_eq_true hq] at HPI
    rw [decide_eq_true hq]
    obtain ⟨l1, l2, l3⟩ := predOk_len hq
    obtain ⟨hs, hn, _⟩ := hq
    obtain ⟨t1, t2, _⟩ := predShapeB_le hs
    obtain ⟨t, rfl⟩ := Int.eq_ofNat_of_zero_le t1
    have hN : 2 ^ t = cs.length := by
      have : ((2 ^ t : Nat) : Int) = (cs.length : Int) := by rw [hn]; simp
      exact_mod_cast this
    have HIX := Lib.hid (fun q : After W0.heap.size W0 => rIndex_any t h r A c cs.length hist R rs.length rc pc q.W (by omega) cs.length hN hh hp)
    obtain ⟨y1, y2⟩ := ctrI_range pc hist cs.length l1
    obtain ⟨i, hi⟩ : ∃ i : Nat, ctrI pc hist cs.length = (i : Int) := ⟨(ctrI pc hist cs.length).toNat, by omega⟩
    rw [hi] at y1 y2 HIX ⊢
    have hil : i < cs.length := by omega
    rw [Int.toNat_natCast]
    obtain ⟨ad, rfl, hx⟩ := RdI.at HC.out i hil
    obtain ⟨x, hxx⟩ : ∃ x, gi cs i = x := ⟨_, rfl⟩
    rw [hxx] at hx ⊢
    have kx := After.cell hx
    have hle := HC.out.le
    clear hi hs hn hN hxx
    cases hd : decide (2 ≤ x)
    all_goals
      go_enter Tryz.func29, Tryz.ntmps29
      go_wp2_with fail
      refine region_after (Below.refl W0.heap.size W0) (by kernel_rfl) (by kernel_rfl) ?_
      repeat (go_big_quiet_step (first
        | (go_at_call 67; exact calls_after (Nat.le_refl _) (HPI.out _))
        | (go_at_call 69; exact calls_after (Nat.le_refl _) (HIX.out _))))
      refine wpQuiet_nil ?_
      intro _ hw'
      obtain ⟨nq, hw''⟩ := hw'
      subst hw''
      go_wp2
      go_ret
      exact ⟨rfl, HB0.out.trans (nq.below.mono HB0.out.size)⟩
  · have HPI := Lib.hid (fun q : After W0.heap.size W0 => rIsPred_any t h r A c cs hist R rs rc q.W (Rd.below HC.out q.below) hh)
    rw [decide_eq_false hq] at HPI
    rw [decide_eq_false hq]
    clear hq
    go_enter Tryz.func29, Tryz.ntmps29
    go_wp2_with fail
    refine region_after (Below.refl W0.heap.size W0) (by kernel_rfl) (by kernel_rfl) ?_
    repeat (go_big_quiet_step (first
      | (go_at_call 67; exact calls_after (Nat.le_refl _) (HPI.out _))))
    refine wpQuiet_nil ?_
    intro _ hw'
    obtain ⟨nq, hw''⟩ := hw'
    subst hw''
    go_wp2
    go_ret
    exact ⟨rfl, HB0.out.trans (nq.below.mono HB0.out.size)⟩
end Go.Proofs.YtdkacdfhapgboaaGreat

/- The specification's predictor: train, Train. -/
set_option linter.unusedVariables false
set_option linter.unusedSimpArgs false
namespace Go.Proofs.YtdkacdfhapgboaaGreat
open Go.RowKit

theorem bits_or1 (a : Nat) (h : a < 4096) : bits .or .u32 ((2 * a : Nat) : Int) 1 = ((2 * a + 1 : Nat) : Int) := by
  have h2 : (BitVec.ofInt 32 ((2 * a : Nat) : Int)).toNat = 2 * a := by
    rw [BitVec.ofInt_natCast, BitVec.toNat_ofNat]; exact Nat.mod_eq_of_lt (by omega)
  have h3 : (BitVec.ofInt 32 (1 : Int)).toNat = 1 := by decide
  have h4 : 2 * a ||| 1 = 2 * a + 1 := by
    have := Nat.two_pow_add_eq_or_of_lt (i := 1) (b := 1) (by decide) a
    simpa using this.symm
  show IntKind.u32.wrap ((BitVec.ofInt 32 ((2 * a : Nat) : Int) ||| BitVec.ofInt 32 (1 : Int)).toNat : Int) = _
  rw [BitVec.toNat_or, h2, h3, h4, IntKind.wrap_u32]
  omega
/-- The history behind a branch, as the specification reckons it. -/
theorem hist_eq (h : Nat) (hist : Int) (taken : Bool) (hh : 0 ≤ hist ∧ hist < 2 ^ h) (h12 : h ≤ 12) :
    IntKind.u32.wrap (IntKind.u32.wrap (2 * hist) + (if taken then 1 else 0)) % (2 : Int) ^ h = trainH h hist taken := by
  obtain ⟨m, hm, m1, m2, _, _, hm2⟩ := pow_wrap h h12
  rw [hm2] at hh ⊢
  have hw : IntKind.u32.wrap (2 * hist) = 2 * hist := IntWalk.u32_in _ (by omega)
  have hw' : IntKind.u32.wrap (hist * 2) = 2 * hist := by rw [show hist * 2 = 2 * hist by omega]; exact hw
  unfold trainH
  simp only [Int.toNat_natCast, hm2, hw, hw']
  cases taken
  · simp only [Bool.false_eq_true, if_false, Int.add_zero]
    rw [hw]
  · simp only [if_true]
    rw [IntWalk.u32_in (2 * hist + 1) (by omega)]
    rcases Nat.lt_or_ge m 2 with h1 | h1
    · obtain rfl : m = 1 := by omega
      simp only [Int.natCast_one, Int.emod_one]
      decide
    · have hh1 : h ≠ 0 := fun e => by subst e; simp at hm; omega
      have hk0 : ∃ k : Nat, m = 2 * k := by
        obtain ⟨g, rfl⟩ : ∃ g, h = g + 1 := ⟨h - 1, by omega⟩
        exact ⟨2 ^ g, by rw [← hm, Nat.pow_succ, Nat.mul_comm]⟩
      obtain ⟨k, hk⟩ := hk0
      obtain ⟨x, rfl⟩ := Int.eq_ofNat_of_zero_le hh.1
      have e1 : (1 : Int) % (m : Int) = 1 := Int.emod_eq_of_lt (by omega) (by omega)
      have e2 : (2 * (x : Int)) % (m : Int) = ((2 * (x % k) : Nat) : Int) := by
        rw [hk]
        have : ((2 * x) % (2 * k) : Nat) = 2 * (x % k) := Nat.mul_mod_mul_left 2 x k
        rw [← this]
        simp
      have hkx : x % k < 4096 := by
        have : x % k < k := Nat.mod_lt _ (by omega)
        omega
      rw [e1, e2, bits_or1 _ hkx]
      have e3 : ((2 * x + 1) % (2 * k) : Nat) = 2 * (x % k) + 1 := by
        have h5 := Nat.mod_add_div x k
        have h6 : x % k < k := Nat.mod_lt _ (by omega)
        have h7 : 2 * x + 1 = (2 * (x % k) + 1) + 2 * k * (x / k) := by
          rw [Nat.mul_assoc]; omega
        rw [h7, Nat.add_mul_mod_self_left, Nat.mod_eq_of_lt (by omega)]
      rw [hk, ← e3]
      simp

theorem own_setR {w : World} {base g c n : Nat} {e : TypeId} {cs : List Value} (h : w.ownsRow base e 1 (.slice (some ⟨g, 0, none⟩) n c) n cs) (i : Nat) (v : Value) : (w.setCell ⟨g, i, none⟩ v).ownsRow base e 1 (.slice (some ⟨g, 0, none⟩) n c) n (cs.set i v) := by
  refine ⟨by rw [List.length_set]; exact h.1, ?_⟩
  rcases h.2 with ⟨h', _⟩ | ⟨g', cap', cur, h', hb, hh, h1, h2, h3, h4⟩
  · simp at h'
  · simp only [Value.slice.injEq, Option.some.injEq, Addr.mk.injEq, and_true, true_and] at h'
    obtain ⟨rfl, rfl⟩ := h'
    refine .inr ⟨g, c, cur.setIfInBounds i v, rfl, hb, set1_heap hh i v, h1, h2, by simpa using h3, ?_⟩
    rw [Array.toList_setIfInBounds, List.take_set, h4]
theorem nums_setR (k : IntKind) (xs : List Int) (i : Nat) (x : Int) : nums k (xs.set i x) = (nums k xs).set i (.int k x) := by simp [nums, List.map_set]
theorem own_rdR {w : World} {base n : Nat} {e : TypeId} {A : Option Addr} {c : Nat} {cs : List Value} (h : w.ownsRow base e 1 (.slice A n c) n cs) : Rd w A n 1 cs := by
  obtain ⟨A', c', e', hr⟩ := own_rd h
  cases e'
  exact hr
theorem own_slice {w : World} {base n sz : Nat} {e : TypeId} {v : Value} {cs : List Value} (h : w.ownsRow base e sz v n cs) (hn : 1 ≤ n) : ∃ g c, v = .slice (some ⟨g, 0, none⟩) n c := by
  rcases h.2 with ⟨_, e⟩ | ⟨g, c', cur, rfl, _⟩
  · omega
  · exact ⟨g, c', rfl⟩

attribute [local irreducible] World.setCell in
set_option maxRecDepth 100000 in
set_option maxHeartbeats 2000000 in
theorem rtrain_any (t h : Nat) (r : Int) (A R : Option Addr) (c rc : Nat) (cs rs : List Int) (hist : Int) (pc : Int) (taken : Bool) (w : World) (H : RdI w .i64 A cs.length cs) (ht : t ≤ 12) (hN : 2 ^ t = cs.length) (h12 : h ≤ 12) (hh : 0 ≤ hist ∧ hist < 2 ^ h) (hp : 0 ≤ pc ∧ pc < 4294967296) (hcs : ∀ x ∈ cs, 0 ≤ x ∧ x ≤ 3) :
    Calls Tryz.prog 73 #[.agg #[.int .i64 (t : Int), .int .i64 (h : Int), .int .i64 r, .slice A cs.length c, .int .u32 hist, .slice R rs.length rc], .int .u32 pc, .bool taken] w fun e w' =>
      ∃ g c', e = .returned (.agg #[.int .i64 (t : Int), .int .i64 (h : Int), .int .i64 r, .slice (some ⟨g, 0, none⟩) cs.length c', .int .u32 (trainH h hist taken), .slice R rs.length rc]) ∧ RdI w' .i64 (some ⟨g, 0, none⟩) cs.length (trainCs cs pc hist taken) ∧ Below w.heap.size w w' ∧ w.heap.size ≤ g := by
  obtain ⟨N, hN2, N1, N2, _, _, _⟩ := pow_wrap t ht
  have hl : 1 ≤ cs.length ∧ cs.length ≤ 4096 := by omega
  have hz := hist_eq h hist taken hh h12
  obtain ⟨m, hm, m1, m2, _, hmw, hm2⟩ := pow_wrap h h12
  rw [hm2] at hz hh
  obtain ⟨hh1, hh2⟩ := hh
  have hw1 : IntKind.u32.wrap (2 * hist) = 2 * hist := IntWalk.u32_in _ (by omega)
  rw [hw1] at hz
  obtain ⟨z, hzz⟩ : ∃ z, trainH h hist taken = z := ⟨_, rfl⟩
  obtain ⟨y1, y2⟩ := ctrI_range pc hist cs.length hl.1
  obtain ⟨i, hi⟩ : ∃ i : Nat, ctrI pc hist cs.length = (i : Int) := ⟨(ctrI pc hist cs.length).toNat, by omega⟩
  have hil : i < cs.length := by omega
  have hcsx := hcs _ (gi_mem cs i hil)
  obtain ⟨x, hx⟩ : ∃ x, gi cs i = x := ⟨_, rfl⟩
  obtain ⟨x', hx'⟩ : ∃ x', trainC x taken = x' := ⟨_, rfl⟩
  have hres : trainCs cs pc hist taken = cs.set i x' := by unfold trainCs; rw [hi, Int.toNat_natCast, hx, hx']
  rw [hres, hzz]
  rw [hzz] at hz
  rw [hx] at hcsx
  obtain ⟨ad, rfl, hxc⟩ := H.at i hil
  rw [hx] at hxc
  obtain ⟨W0, hW0⟩ : ∃ W0, (w.alloc (.cells #[.int .i64 (t : Int), .int .i64 (h : Int), .int .i64 r, .slice (some ad) cs.length c, .int .u32 hist, .slice R rs.length rc] 50)).alloc (.cells #[.int .i64 0, .int .i64 0, .int .i64 0, .slice none 0 0, .int .u32 0, .slice none 0 0] 50) = W0 := ⟨_, rfl⟩
  have hb0 : Below w.heap.size w W0 := by rw [← hW0]; exact ((Below.refl _ _).alloc (Nat.le_refl _) _).alloc (by simp) _
  have hx0 : W0.heap[w.heap.size]? = some (.cells #[.int .i64 (t : Int), .int .i64 (h : Int), .int .i64 r, .slice (some ad) cs.length c, .int .u32 hist, .slice R rs.length rc] 50 (0, 0)) := by rw [← hW0]; exact (heap_alloc_old _ _ (by simp)).trans (heap_alloc_new w _)
  have hx1 : W0.heap[w.heap.size + 1]? = some (.cells #[.int .i64 0, .int .i64 0, .int .i64 0, .slice none 0 0, .int .u32 0, .slice none 0 0] 50 (0, 0)) := by rw [← hW0]; exact alloc_at _ _ _ (by simp)
  have hs0 : w.heap.size + 2 ≤ W0.heap.size := by rw [← hW0]; simp
  obtain ⟨c0, c1, c2, c3, c4, c5, _⟩ := box6 hx0
  have HH := Lib.hid (show RdI W0 .i64 (some ad) cs.length cs from Rd.below H hb0)
  have HX0 := Lib.hid hx0
  have HX1 := Lib.hid hx1
  have HB0 := Lib.hid hb0
  have HS0 := Lib.hid hs0
  have HZ := Lib.hid hz
  have HM := Lib.hid hmw
  have HI := Lib.hid hi
  have HXX := Lib.hid hx
  have HX' := Lib.hid hx'
  have HNN := Lib.hid hN
  have HW1 := Lib.hid hw1
  clear H hx0 hx1 hb0 hs0 hz hmw hi hx hx' hN hN2 hm hm2 hzz hres hw1 hcs hxc
  go_enter Tryz.func73, Tryz.ntmps73
  go_wp2_with fail
  refine (rIndex_any t h r (some ad) c cs.length hist R rs.length rc pc _ ht cs.length HNN.out ⟨hh1, by omega⟩ hp).mono ?_
  rintro e W1 ⟨rfl, hb1⟩
  rw [HI.out]
  obtain ⟨i0, hi0, hz0, hz1, hz2⟩ := info_parts info_int
  obtain ⟨V1, hV1⟩ : ∃ V, W1.alloc (.cells #[] 3) = V := ⟨_, rfl⟩
  have hbv : Below W1.heap.size W1 V1 := by rw [← hV1]; exact balloc _ _
  have HOWN := Lib.hid (World.ownsRow_lit (base := W1.heap.size) (e := 3) (size := 1) W1 #[] 0 (Nat.le_refl _) (by decide) rfl)
  rw [hV1] at HOWN
  have HC : Hid (∀ j u, (nums .i64 cs)[j]? = some u → V1.cell? (ad.add j) = some u) := fun j u hu => by
    obtain ⟨hj, rfl⟩ := List.getElem?_eq_some_iff.1 hu
    obtain ⟨ad', e, hc⟩ := HH.out.cell j hj
    obtain rfl := Option.some.inj e
    exact bkeep hbv (bkeep hb1 hc)
  have HY0 := Lib.hid (belowBox hbv (belowBox hb1 HX0.out))
  have HY1 := Lib.hid (belowBox hbv (belowBox hb1 HX1.out))
  have hbx := hb1.trans (hbv.mono hb1.size)
  have HB1 := Lib.hid (HB0.out.trans (hbx.mono HB0.out.size))
  have HS1 := Lib.hid (show w.heap.size + 2 ≤ W1.heap.size ∧ W1.heap.size ≤ V1.heap.size from ⟨Nat.le_trans HS0.out hb1.size, hbv.size⟩)
  obtain ⟨d0, d1, d2, d3, d4, d5, _⟩ := box6 HY0.out
  have HKEEP := Lib.hid (show ∀ w1 : World, V1.grownBy w1 (some W1.heap.size) → w1.heap[w.heap.size]? = some (.cells #[.int .i64 (t : Int), .int .i64 (h : Int), .int .i64 r, .slice (some ad) cs.length c, .int .u32 hist, .slice R rs.length rc] 50 (0, 0)) from fun w1 hg => (hg.block _ (by have := HS1.out; omega) (by have := HS1.out; intro e; have := Option.some.inj e; omega)).trans HY0.out)
  clear hb1 hbv hbx c0 c1 c2 c3 c4 c5
  cases taken
  all_goals
    go_wp2_with (at_builtin; refine wpList_append_own _ rfl _ _ 48 rfl W1.heap.size 3 i0 (.int .i64 0) 1 8 Tryz.underlying48 hi0 hz0 hz1 hz2 rfl (by decide) _ 0 [] rfl HOWN.out ad cs.length c (nums .i64 cs) rfl (by simp) HC.out (by simp [nums, Value.oneCell']) (by unfold maxLen; omega) (by omega) (by have := HS1.out.2; omega) ?_; intro v' w1 hown' hgrow hnil'; obtain ⟨e0, e1, e2, e3, e4, e5, e6⟩ := box6 (HKEEP.out w1 hgrow); obtain ⟨g, c', rfl⟩ := own_slice hown' (by omega))
    have hge := hown'.lt g rfl
    have hgne : g ≠ w.heap.size := by have := HS1.out; omega
    have HQ0 := Lib.hid (show (w1.setCell ⟨w.heap.size, 3, none⟩ (.slice (some ⟨g, 0, none⟩) cs.length c')).heap[w.heap.size]? = some (.cells #[.int .i64 (t : Int), .int .i64 (h : Int), .int .i64 r, .slice (some ⟨g, 0, none⟩) cs.length c', .int .u32 hist, .slice R rs.length rc] 50 (0, 0)) from set1_heap (HKEEP.out w1 hgrow) 3 _)
    have hu2 : Upd (fun k => k = w.heap.size ∨ some W1.heap.size = some k) V1 (w1.setCell ⟨w.heap.size, 3, none⟩ (.slice (some ⟨g, 0, none⟩) cs.length c')) :=
      ((Upd.of_grown hgrow).mono fun k hk => .inr hk).trans ((Upd.setCell w1 ⟨w.heap.size, 3, none⟩ _).mono (G := fun k => k = w.heap.size ∨ some W1.heap.size = some k) fun k hk => .inl hk) fun k hk => .inl hk
    have ho2 := own_upd (by rw [Nat.zero_add, List.nil_append] at hown'; exact hown') (Upd.setCell w1 ⟨w.heap.size, 3, none⟩ (.slice (some ⟨g, 0, none⟩) cs.length c')) fun k hk (e : k = w.heap.size) => hgne ((show g = k by simpa [Value.ownBlock] using hk).trans e)
    obtain ⟨W2, hW2⟩ : ∃ W, w1.setCell ⟨w.heap.size, 3, none⟩ (.slice (some ⟨g, 0, none⟩) cs.length c') = W := ⟨_, rfl⟩
    rw [hW2] at HQ0 hu2 ho2
    rw [hW2]
    have HQ1 := Lib.hid ((hu2.block (w.heap.size + 1) (by have := HS1.out; omega) (by have := HS1.out; rintro (e | e); omega; have := Option.some.inj e; omega)).trans HY1.out)
    have HB2 := Lib.hid (HB1.out.trans (hu2.below (by have := HS1.out; omega) (B := w.heap.size) fun k hk => by
      have := HS1.out
      rcases hk with e | e
      · omega
      · have := Option.some.inj e
        omega))
    have HO2 := Lib.hid ho2
    have HG := Lib.hid (show W1.heap.size ≤ g ∧ g < W2.heap.size from ⟨hge.1, by rw [← hW2]; simpa [World.setCell] using hge.2⟩)
    have ecell := (ho2.cellAt i (by omega)).trans (show (nums .i64 cs)[i]? = some (.int .i64 x) by rw [← HXX.out]; simp [nums, gi, List.getElem?_eq_getElem hil, List.getD_eq_getElem?_getD])
    have efr := ho2.frozenAt i
    obtain ⟨W2d, hW2d⟩ : ∃ W, W2.drew = W := ⟨_, rfl⟩
    have n0 : W2d.cell? ⟨g, i, none⟩ = some (.int .i64 x) := by rw [← hW2d]; exact ecell
    have n1 : W2d.frozen? ⟨g, i, none⟩ = false := by rw [← hW2d]; exact efr
    have n2 : W2d.cell? ⟨w.heap.size, 3, none⟩ = some (.slice (some ⟨g, 0, none⟩) cs.length c') := by rw [← hW2d]; exact (box6 HQ0.out).2.2.2.1
    have HD2 := Lib.hid hW2d
    have hcase : x = 0 ∨ x = 1 ∨ x = 2 ∨ x = 3 := by omega
    obtain ⟨W3, hW3⟩ : ∃ W, W2d.setCell ⟨g, i, none⟩ (.int .i64 x') = W := ⟨_, rfl⟩
    have hsc := Upd.setCell W2.drew ⟨g, i, none⟩ (.int .i64 x')
    rw [hW2d, hW3] at hsc
    have HX3 := Lib.hid (show W3.heap[w.heap.size]? = some (.cells #[.int .i64 (t : Int), .int .i64 (h : Int), .int .i64 r, .slice (some ⟨g, 0, none⟩) cs.length c', .int .u32 hist, .slice R rs.length rc] 50 (0, 0)) by
      rw [← hW3, ← hW2d]
      exact ((Upd.setCell W2.drew ⟨g, i, none⟩ (.int .i64 x')).block _ (Array.getElem?_eq_some_iff.1 HQ0.out).1 (fun (e : w.heap.size = g) => hgne e.symm)).trans HQ0.out)
    have HX3b := Lib.hid (show W3.heap[w.heap.size + 1]? = some (.cells #[.int .i64 0, .int .i64 0, .int .i64 0, .slice none 0 0, .int .u32 0, .slice none 0 0] 50 (0, 0)) by
      rw [← hW3, ← hW2d]
      exact ((Upd.setCell W2.drew ⟨g, i, none⟩ (.int .i64 x')).block _ (Array.getElem?_eq_some_iff.1 HQ1.out).1 (fun (e : w.heap.size + 1 = g) => by have := HG.out; have := HS1.out; omega)).trans HQ1.out)
    have HO3 := Lib.hid (show W3.ownsRow W1.heap.size 3 1 (.slice (some ⟨g, 0, none⟩) cs.length c') cs.length (nums .i64 (cs.set i x')) by
      rw [← hW3, ← hW2d, nums_setR]
      exact own_setR (own_upd HO2.out (Upd.drew (fun _ => False) W2) fun _ _ h => h) _ _)
    have HB3 := Lib.hid (show Below w.heap.size w W3 by
      rw [← hW3, ← hW2d]
      exact (bdrewN HB2.out 1).trans ((Upd.setCell W2.drew ⟨g, i, none⟩ (.int .i64 x')).below (by have := HB2.out.size; exact this) fun k (e : k = g) => by have := HG.out; have := HS1.out; omega))
    clear hsc
    clear hge hgne hu2 ho2 hW2 ecell efr e0 e1 e2 e3 e4 e5 e6 hgrow hown' hnil'
    rcases hcase with h4 | h4 | h4 | h4
    all_goals
      subst h4
      have hxe := HX'.out.symm
      first
        | (obtain rfl : x' = 0 := hxe.trans rfl)
        | (obtain rfl : x' = 1 := hxe.trans rfl)
        | (obtain rfl : x' = 2 := hxe.trans rfl)
        | (obtain rfl : x' = 3 := hxe.trans rfl)
      clear hxe
      have f1 := Just.cell n0
      have f2 := Just.cell n2
      refine region_tail 10 hW2d (by kernel_rfl) (by kernel_rfl) ?_
      simp only [List.take_succ_cons, List.take_zero, List.drop_succ_cons, List.drop_zero]
      repeat (go_big_quiet_step (fail))
      refine wpQuiet_nil ?_
      clear f1 f2 hW2d
      go_wp2_with fail
      clear hW3 n0 n1 n2
      have k4 := (box6 HX3.out).2.2.2.2.1
      have k1 := (box6 HX3.out).2.1
      obtain ⟨W4, hW4⟩ : ∃ W, W3.drew = W := ⟨_, rfl⟩
      have l4 : W4.cell? ⟨w.heap.size, 4, none⟩ = some (.int .u32 hist) := by rw [← hW4]; exact k4
      have l1 : W4.cell? ⟨w.heap.size, 1, none⟩ = some (.int .i64 (h : Int)) := by rw [← hW4]; exact k1
      have lf : W4.frozen? ⟨w.heap.size, 4, none⟩ = false := by rw [← hW4]; exact (box6 HX3.out).2.2.2.2.2.2 4
      have HW4 := Lib.hid hW4
      clear k4 k1
      have f1 := Just.cell l4
      have f2 := Just.cell l1
      have hmw := HM.out
      have hw1 := HW1.out
      have hm0 : ¬ (m : Int) = 0 := by omega
      have hzv := HZ.out
      have hw2 : IntKind.u32.wrap (2 * hist + 1) = 2 * hist + 1 := IntWalk.u32_in _ (by omega)
      simp only [Bool.false_eq_true, if_false, if_true, Int.add_zero, hw1, hw2] at hzv
      have hzt := (Int.tmod_eq_emod_of_nonneg (b := (m : Int)) (show (0 : Int) ≤ 2 * hist + 1 by omega))
      have hzt2 := (Int.tmod_eq_emod_of_nonneg (b := (m : Int)) (show (0 : Int) ≤ 2 * hist by omega))
      first | rw [hzv] at hzt | rw [hzv] at hzt2
      have hzr : 0 ≤ z ∧ z < (m : Int) := by rw [← hzv]; exact ⟨Int.emod_nonneg _ (by omega), Int.emod_lt_of_pos _ (by omega)⟩
      have hzw : IntKind.u32.wrap z = z := IntWalk.u32_in _ (by omega)
      clear hzr hzv
      refine region_tail 10 hW4 (by kernel_rfl) (by kernel_rfl) ?_
      simp only [List.take_succ_cons, List.take_zero, List.drop_succ_cons, List.drop_zero]
      repeat (go_big_quiet_step (fail))
      refine wpQuiet_nil ?_
      obtain ⟨W5, hW5⟩ : ∃ W, W4.setCell ⟨w.heap.size, 4, none⟩ (.int .u32 z) = W := ⟨_, rfl⟩
      have hu5 : Upd (fun k => k = w.heap.size) W3 W5 := by
        rw [← hW5, ← HW4.out]
        exact (Upd.drew (fun k => k = w.heap.size) W3).trans (Upd.setCell _ _ _) fun k hk => .inl hk
      have HX5 := Lib.hid (show W5.heap[w.heap.size]? = some (.cells #[.int .i64 (t : Int), .int .i64 (h : Int), .int .i64 r, .slice (some ⟨g, 0, none⟩) cs.length c', .int .u32 z, .slice R rs.length rc] 50 (0, 0)) by
        rw [← hW5, ← HW4.out]
        exact set1_heap (show W3.drew.heap[w.heap.size]? = _ from HX3.out) 4 _)
      have HX5b := Lib.hid ((hu5.block (w.heap.size + 1) (Array.getElem?_eq_some_iff.1 HX3b.out).1 (fun (e : w.heap.size + 1 = w.heap.size) => by omega)).trans HX3b.out)
      have HO5 := Lib.hid (own_upd HO3.out hu5 fun k hk (e : k = w.heap.size) => by have := (HO3.out.lt k hk).1; have := HS1.out; omega)
      have HB5 := Lib.hid (HB3.out.trans (hu5.below (by have := HB3.out.size; omega) fun k (e : k = w.heap.size) => by omega))
      obtain ⟨e0, e1, e2, e3, e4, e5, e6⟩ := box6 HX5.out
      obtain ⟨g0, g1, g2, g3, g4, g5, g6⟩ := box6 HX5b.out
      clear hu5 f1 f2 hW4 hmw hw1 hw2 hm0 hzt hzt2 hzw l1
      go_wp2_with fail
      (try simp only [Exit.inBlock, Exit.then])
      refine bodyPost_ret (v := .agg #[.int .i64 (t : Int), .int .i64 (h : Int), .int .i64 r, .slice (some ⟨g, 0, none⟩) cs.length c', .int .u32 z, .slice R rs.length rc]) (results_cell1 rfl rfl (run_loadVar_row (P := Tryz.prog) _ _ 50 50 _ (0, 0) _ (set6_heap HX5b.out _ _ _ _ _ _) Tryz.underlying50 rfl (by kernel_rfl))) rfl ?_
      refine ⟨g, c', rfl, ?_, bset6 HB5.out (by omega) _ _ _ _ _ _, by have := HG.out; have := HS1.out; omega⟩
      have hfin := own_upd HO5.out (uset6 W5 (w.heap.size + 1) (.int .i64 (t : Int)) (.int .i64 (h : Int)) (.int .i64 r) (.slice (some ⟨g, 0, none⟩) cs.length c') (.int .u32 z) (.slice R rs.length rc)) fun k hk (e : k = w.heap.size + 1) => by have := (HO5.out.lt k hk).1; have := HS1.out; omega
      exact own_rdR hfin
end Go.Proofs.YtdkacdfhapgboaaGreat

/- The specification's predictor: Train. -/
set_option linter.unusedVariables false
set_option linter.unusedSimpArgs false
namespace Go.Proofs.YtdkacdfhapgboaaGreat
open Go.RowKit

/-- A value that reads as these numbers, and goes on so whatever is written into the blocks of F. -/
def PredR (e : Value) (t h r : Int) (cs : List Int) (hist : Int) (rs : List Int) (F : Nat → Prop) (w : World) : Prop :=
  ∃ A c R rc, e = .agg #[.int .i64 t, .int .i64 h, .int .i64 r, .slice A cs.length c, .int .u32 hist, .slice R rs.length rc] ∧ ∀ W2, Upd F w W2 → RdI W2 .i64 A cs.length cs ∧ RdI W2 .u32 R rs.length rs
theorem PredIs.reads {w : World} {e : Value} {t h r : Int} {cs : List Int} {hist : Int} {rs : List Int} {w' : World} (H : PredIs w e t h r cs hist rs w') (B : Nat) : PredR e t h r cs hist rs (fun k => B ≤ k ∧ k < w.heap.size) w' := by
  obtain ⟨g, c, v, rfl, h1, h2, _⟩ := H
  obtain ⟨A, c2, rfl, _, _, _⟩ := h2.slice
  refine ⟨_, c, A, c2, by rw [nums_length], fun W2 hu => ⟨own_rdR (own_upd h1 hu fun k hk hf => ?_), ?_⟩⟩
  · have := (h1.lt k hk).1
    omega
  · obtain ⟨A', c', e, _, _, h4⟩ := (h2.upd hu fun k hk hf => by have := (h2.lt k hk).1; omega).slice
    rw [nums_length] at h4 e
    cases e
    exact h4
theorem Rd.old {F : Nat → Prop} {w0 w1 w2 : World} {A : Option Addr} {n sz : Nat} {cs : List Value} (h : Rd w0 A n sz cs) (hb : Below w0.heap.size w0 w1) (hu : Upd F w1 w2) (hF : ∀ k, k < w0.heap.size → ¬ F k) : Rd w2 A n sz cs :=
  ⟨h.len, h.le, fun j hj => by
    obtain ⟨ad, e, hc⟩ := h.cell j hj
    refine ⟨ad, e, ?_⟩
    have hl := World.block_lt_of_cell? w0 _ hc
    rw [← bkeep hb hc]
    simp only [World.cell?, hu.block (ad.add j).block (Nat.lt_of_lt_of_le hl hb.size) (hF _ hl)]⟩
theorem Rd.at1 {F : Nat → Prop} {w1 w2 : World} {g : Nat} {n sz : Nat} {cs : List Value} (h : Rd w1 (some ⟨g, 0, none⟩) n sz cs) (hu : Upd F w1 w2) (hF : ¬ F g) : Rd w2 (some ⟨g, 0, none⟩) n sz cs :=
  ⟨h.len, h.le, fun j hj => by
    obtain ⟨ad, e, hc⟩ := h.cell j hj
    refine ⟨ad, e, ?_⟩
    have e2 := Option.some.inj e
    have h1 : (ad.add j).block = g := by rw [← e2]; unfold Addr.add; split <;> rfl
    have hl := World.block_lt_of_cell? w1 _ hc
    rw [h1] at hl
    rw [← hc]
    simp only [World.cell?, h1, hu.block g hl hF]⟩

attribute [local irreducible] World.setCell in
set_option maxRecDepth 100000 in
set_option maxHeartbeats 1000000 in
theorem rTrain_bad (t h r : Int) (A R : Option Addr) (c rc : Nat) (cs rs : List Int) (hist : Int) (pc : Int) (taken : Bool) (w : World) (H : RdP w A c cs R rc rs) (hq : ¬ predOk t h r cs hist rs) (hh : 0 ≤ hist ∧ hist < 4294967296) :
    Calls Tryz.prog 33 #[.agg #[.int .i64 t, .int .i64 h, .int .i64 r, .slice A cs.length c, .int .u32 hist, .slice R rs.length rc], .int .u32 pc, .bool taken] w fun e w' => e = .returned (.tuple #[emptyP, .int .i64 330]) ∧ Below w.heap.size w w' := by
  have HQ := Lib.hid (decide_eq_false hq)
  clear hq
  obtain ⟨W0, hW0⟩ : ∃ W0, (w.alloc (.cells #[.int .i64 t, .int .i64 h, .int .i64 r, .slice A cs.length c, .int .u32 hist, .slice R rs.length rc] 50)).alloc (.cells #[.int .i64 0, .int .i64 0, .int .i64 0, .slice none 0 0, .int .u32 0, .slice none 0 0] 50) = W0 := ⟨_, rfl⟩
  have hb0 : Below w.heap.size w W0 := by rw [← hW0]; exact ((Below.refl _ _).alloc (Nat.le_refl _) _).alloc (by simp) _
  have hx0 : W0.heap[w.heap.size]? = some (.cells #[.int .i64 t, .int .i64 h, .int .i64 r, .slice A cs.length c, .int .u32 hist, .slice R rs.length rc] 50 (0, 0)) := by rw [← hW0]; exact (heap_alloc_old _ _ (by simp)).trans (heap_alloc_new w _)
  have hx1 : W0.heap[w.heap.size + 1]? = some (.cells #[.int .i64 0, .int .i64 0, .int .i64 0, .slice none 0 0, .int .u32 0, .slice none 0 0] 50 (0, 0)) := by rw [← hW0]; exact alloc_at _ _ _ (by simp)
  have hs0 : w.heap.size + 2 ≤ W0.heap.size := by rw [← hW0]; simp
  obtain ⟨c0, c1, c2, c3, c4, c5, _⟩ := box6 hx0
  have HH := Lib.hid (RdP.below H hb0)
  have HX0 := Lib.hid hx0
  have HX1 := Lib.hid hx1
  have HB0 := Lib.hid hb0
  have HS0 := Lib.hid hs0
  clear H hx0 hx1 hb0 hs0
  go_enter Tryz.func33, Tryz.ntmps33
  go_wp2_with fail
  refine (rIsPred_any t h r A c cs hist R rs rc _ HH.out.cnt hh).mono ?_
  rintro e W ⟨rfl, hb⟩
  rw [HQ.out]
  have HB := Lib.hid (belowBox hb HX1.out)
  obtain ⟨s0, s1, s2, s3, s4, s5, d0⟩ := box6 HB.out
  have HBW := Lib.hid (HB0.out.trans (hb.mono HB0.out.size))
  clear hb
  go_wp2_with fail
  (try simp only [Exit.inBlock, Exit.then])
  refine bodyPost_ret (v := .tuple #[emptyP, .int .i64 330]) (results_cell2 rfl rfl rfl (run_loadVar_row (P := Tryz.prog) _ _ 50 50 _ (0, 0) _ (set6_heap HB.out _ _ _ _ _ _) Tryz.underlying50 rfl (by kernel_rfl))) rfl ?_
  exact ⟨rfl, bset6 HBW.out (by omega) _ _ _ _ _ _⟩

attribute [local irreducible] World.setCell in
set_option maxRecDepth 100000 in
set_option maxHeartbeats 1000000 in
theorem rCall_bad (t h r : Int) (A R : Option Addr) (c rc : Nat) (cs rs : List Int) (hist : Int) (pc : Int) (w : World) (H : RdP w A c cs R rc rs) (hq : ¬ predOk t h r cs hist rs) (hh : 0 ≤ hist ∧ hist < 4294967296) :
    Calls Tryz.prog 35 #[.agg #[.int .i64 t, .int .i64 h, .int .i64 r, .slice A cs.length c, .int .u32 hist, .slice R rs.length rc], .int .u32 pc] w fun e w' => e = .returned (.tuple #[emptyP, .int .i64 330]) ∧ Below w.heap.size w w' := by
  have HQ := Lib.hid (decide_eq_false hq)
  clear hq
  obtain ⟨W0, hW0⟩ : ∃ W0, (w.alloc (.cells #[.int .i64 t, .int .i64 h, .int .i64 r, .slice A cs.length c, .int .u32 hist, .slice R rs.length rc] 50)).alloc (.cells #[.int .i64 0, .int .i64 0, .int .i64 0, .slice none 0 0, .int .u32 0, .slice none 0 0] 50) = W0 := ⟨_, rfl⟩
  have hb0 : Below w.heap.size w W0 := by rw [← hW0]; exact ((Below.refl _ _).alloc (Nat.le_refl _) _).alloc (by simp) _
  have hx0 : W0.heap[w.heap.size]? = some (.cells #[.int .i64 t, .int .i64 h, .int .i64 r, .slice A cs.length c, .int .u32 hist, .slice R rs.length rc] 50 (0, 0)) := by rw [← hW0]; exact (heap_alloc_old _ _ (by simp)).trans (heap_alloc_new w _)
  have hx1 : W0.heap[w.heap.size + 1]? = some (.cells #[.int .i64 0, .int .i64 0, .int .i64 0, .slice none 0 0, .int .u32 0, .slice none 0 0] 50 (0, 0)) := by rw [← hW0]; exact alloc_at _ _ _ (by simp)
  have hs0 : w.heap.size + 2 ≤ W0.heap.size := by rw [← hW0]; simp
  obtain ⟨c0, c1, c2, c3, c4, c5, _⟩ := box6 hx0
  have HH := Lib.hid (RdP.below H hb0)
  have HX0 := Lib.hid hx0
  have HX1 := Lib.hid hx1
  have HB0 := Lib.hid hb0
  have HS0 := Lib.hid hs0
  clear H hx0 hx1 hb0 hs0
  go_enter Tryz.func35, Tryz.ntmps35
  go_wp2_with fail
  refine (rIsPred_any t h r A c cs hist R rs rc _ HH.out.cnt hh).mono ?_
  rintro e W ⟨rfl, hb⟩
  rw [HQ.out]
  have HB := Lib.hid (belowBox hb HX1.out)
  obtain ⟨s0, s1, s2, s3, s4, s5, d0⟩ := box6 HB.out
  have HBW := Lib.hid (HB0.out.trans (hb.mono HB0.out.size))
  clear hb
  go_wp2_with fail
  (try simp only [Exit.inBlock, Exit.then])
  refine bodyPost_ret (v := .tuple #[emptyP, .int .i64 330]) (results_cell2 rfl rfl rfl (run_loadVar_row (P := Tryz.prog) _ _ 50 50 _ (0, 0) _ (set6_heap HB.out _ _ _ _ _ _) Tryz.underlying50 rfl (by kernel_rfl))) rfl ?_
  exact ⟨rfl, bset6 HBW.out (by omega) _ _ _ _ _ _⟩

attribute [local irreducible] World.setCell in
set_option maxRecDepth 100000 in
set_option maxHeartbeats 1000000 in
theorem rTrain_ok (t h r : Int) (A R : Option Addr) (c rc : Nat) (cs rs : List Int) (hist : Int) (pc : Int) (taken : Bool) (w0 w : World) (HO : RdP w0 A c cs R rc rs) (hbw : Below w0.heap.size w0 w) (hq : predOk t h r cs hist rs) (hh : 0 ≤ hist ∧ hist < 4294967296) (hp : 0 ≤ pc ∧ pc < 4294967296) :
    Calls Tryz.prog 33 #[.agg #[.int .i64 t, .int .i64 h, .int .i64 r, .slice A cs.length c, .int .u32 hist, .slice R rs.length rc], .int .u32 pc, .bool taken] w fun e w' =>
      ∃ u, e = .returned (.tuple #[u, .int .i64 0]) ∧ PredR u t h r (trainCs cs pc hist taken) (trainH h hist taken) rs (fun k => w0.heap.size ≤ k ∧ k < w.heap.size) w' ∧ Below w.heap.size w w' := by
  have H := HO.below hbw
  have HQ := Lib.hid (decide_eq_true hq)
  have HCS := Lib.hid (predOk_cs hq)
  obtain ⟨hs, hn, _, hh2, _⟩ := hq
  obtain ⟨t1, t2, u1, u2, _⟩ := predShapeB_le hs
  obtain ⟨t, rfl⟩ := Int.eq_ofNat_of_zero_le t1
  obtain ⟨h, rfl⟩ := Int.eq_ofNat_of_zero_le u1
  have HN := Lib.hid (show 2 ^ t = cs.length by
    have : ((2 ^ t : Nat) : Int) = (cs.length : Int) := by rw [hn]; simp
    exact_mod_cast this)
  have HH2 := Lib.hid (show hist < 2 ^ h by simpa using hh2)
  have hlc : (trainCs cs pc hist taken).length = cs.length := by unfold trainCs; simp
  have HLC := Lib.hid hlc
  have HRO := Lib.hid HO.ret
  have HBW := Lib.hid hbw
  clear hs hn hh2 hlc HO hbw
  obtain ⟨W0, hW0⟩ : ∃ W0, (w.alloc (.cells #[.int .i64 (t : Int), .int .i64 (h : Int), .int .i64 r, .slice A cs.length c, .int .u32 hist, .slice R rs.length rc] 50)).alloc (.cells #[.int .i64 0, .int .i64 0, .int .i64 0, .slice none 0 0, .int .u32 0, .slice none 0 0] 50) = W0 := ⟨_, rfl⟩
  have hb0 : Below w.heap.size w W0 := by rw [← hW0]; exact ((Below.refl _ _).alloc (Nat.le_refl _) _).alloc (by simp) _
  have hx0 : W0.heap[w.heap.size]? = some (.cells #[.int .i64 (t : Int), .int .i64 (h : Int), .int .i64 r, .slice A cs.length c, .int .u32 hist, .slice R rs.length rc] 50 (0, 0)) := by rw [← hW0]; exact (heap_alloc_old _ _ (by simp)).trans (heap_alloc_new w _)
  have hx1 : W0.heap[w.heap.size + 1]? = some (.cells #[.int .i64 0, .int .i64 0, .int .i64 0, .slice none 0 0, .int .u32 0, .slice none 0 0] 50 (0, 0)) := by rw [← hW0]; exact alloc_at _ _ _ (by simp)
  have hs0 : w.heap.size + 2 ≤ W0.heap.size := by rw [← hW0]; simp
  obtain ⟨c0, c1, c2, c3, c4, c5, _⟩ := box6 hx0
  have HH := Lib.hid (RdP.below H hb0)
  have HX0 := Lib.hid hx0
  have HX1 := Lib.hid hx1
  have HB0 := Lib.hid hb0
  have HS0 := Lib.hid hs0
  clear H hx0 hx1 hb0 hs0
  go_enter Tryz.func33, Tryz.ntmps33
  go_wp2_with fail
  refine (rIsPred_any (t : Int) (h : Int) r A c cs hist R rs rc _ HH.out.cnt hh).mono ?_
  rintro e W1 ⟨rfl, hb1⟩
  rw [HQ.out]
  have HH1 := Lib.hid (HH.out.below hb1)
  have HB1 := Lib.hid (HB0.out.trans (hb1.mono HB0.out.size))
  have HX11 := Lib.hid (belowBox hb1 HX1.out)
  have HS1 := Lib.hid (show w.heap.size + 2 ≤ W1.heap.size from Nat.le_trans HS0.out hb1.size)
  obtain ⟨d0, d1, d2, d3, d4, d5, _⟩ := box6 (belowBox hb1 HX0.out)
  clear c0 c1 c2 c3 c4 c5 hb1
  go_wp2_with fail
  refine (rtrain_any t h r A R c rc cs rs hist pc taken _ HH1.out.cnt (by omega) HN.out (by omega) ⟨hh.1, HH2.out⟩ hp HCS.out).mono ?_
  rintro e W2 ⟨g, c', rfl, hrd, hb2, hg⟩
  have HG := Lib.hid hg
  have HRD := Lib.hid hrd
  have HR2 := Lib.hid (show RdI W2 .u32 R rs.length rs from Rd.below HH1.out.ret hb2)
  have HB2 := Lib.hid (HB1.out.trans (hb2.mono HB1.out.size))
  have HX12 := Lib.hid (belowBox hb2 HX11.out)
  obtain ⟨s0, s1, s2, s3, s4, s5, s6⟩ := box6 HX12.out
  clear hrd hb2 hg d0 d1 d2 d3 d4 d5
  go_wp2_with fail
  (try simp only [Exit.inBlock, Exit.then])
  refine bodyPost_ret (v := .tuple #[.agg #[.int .i64 (t : Int), .int .i64 (h : Int), .int .i64 r, .slice (some ⟨g, 0, none⟩) cs.length c', .int .u32 (trainH h hist taken), .slice R rs.length rc], .int .i64 0]) (results_cell2 rfl rfl rfl (run_loadVar_row (P := Tryz.prog) _ _ 50 50 _ (0, 0) _ (set6_heap HX12.out _ _ _ _ _ _) Tryz.underlying50 rfl (by kernel_rfl))) rfl ?_
  refine ⟨_, rfl, ⟨some ⟨g, 0, none⟩, c', R, rc, by rw [HLC.out], fun W9 hu => ⟨?_, ?_⟩⟩, bset6 HB2.out (by omega) _ _ _ _ _ _⟩
  · rw [HLC.out]
    exact Rd.at1 (Rd.at1 HRD.out (uset6 W2 (w.heap.size + 1) _ _ _ _ _ _) (fun (e : g = w.heap.size + 1) => by have := HG.out; have := HB1.out.size; have := HS1.out; omega)) hu (fun e => by have := HG.out; have := HS1.out; omega)
  · exact Rd.old HRO.out (HBW.out.trans ((bset6 HB2.out (by omega) _ _ _ _ _ _).mono HBW.out.size)) hu (fun k hk e => by omega)
end Go.Proofs.YtdkacdfhapgboaaGreat

/- The specification's predictor: call, Call. -/
set_option linter.unusedVariables false
set_option linter.unusedSimpArgs false
namespace Go.Proofs.YtdkacdfhapgboaaGreat
open Go.RowKit

/-- An append onto a row of the call's own, whatever slice is read. -/
theorem app_any {P : Program} {W : World} {base : Nat} {t ty e : TypeId} {i : TypeInfo} {z : Value} {bytes : Nat} (ht : P.underlying t = some (.slice e)) (hi : P.info? e = some i) (hz : i.zero = some z) (hsize : i.size = 1) (hby : i.bytes = bytes) (hzs : z.cells.size = 1)
    {v : Value} {n : Nat} {xs : List Value} (hown : W.ownsRow base e 1 v n xs) {A : Option Addr} {m c : Nat} {news : List Value} (hr : Rd W A m 1 news) (h1 : ∀ u ∈ news, u.oneCell' = true)
    (h63 : n + m ≤ maxLen) (hbytes : (n + m) * bytes ≤ 140737488355328) (hbase : base ≤ W.heap.size) :
    ∃ v' W', (Builtin.append_ #[t, t] ty #[v, .slice A m c]).run P W = .ok v' W' ∧ W'.ownsRow base e 1 v' (n + m) (xs ++ news) ∧ W.grownBy W' v.ownBlock := by
  have hl := hr.len
  cases A with
  | none =>
    have hn : news = [] := by
      rcases news with _ | ⟨u, us⟩
      · rfl
      · obtain ⟨ad, e, _⟩ := hr.cell 0 (by simp)
        exact absurd e (by simp)
    subst hn
    obtain rfl : m = 0 := by simpa using hl.symm
    refine ⟨v, W, ?_, by simpa using hown, World.grownBy.refl W _⟩
    rcases hown.2 with ⟨rfl, rfl⟩ | ⟨g, cap, cur, rfl, _, _, hnc, _⟩
    · simp [Builtin.append_, run_underlying ht, sizeOf, typeInfo, hi, Builtin.lenOf, Builtin.firstCells]
    · simp [Builtin.append_, run_underlying ht, sizeOf, typeInfo, hi, Builtin.lenOf, Builtin.firstCells, hnc, storeCells]
  | some ad =>
    obtain ⟨v', W', hrun, h2, h3, _⟩ := run_append_own (P := P) W base t ty e i z 1 bytes ht hi hz hsize hby hzs (by omega) v n xs hown ad m c news hl (fun j u hu => by
      obtain ⟨hj, rfl⟩ := List.getElem?_eq_some_iff.1 hu
      obtain ⟨ad', e', hc⟩ := hr.cell j hj
      obtain rfl := Option.some.inj e'
      exact hc) h1 h63 hbytes hbase
    exact ⟨v', W', hrun, h2, h3⟩
theorem numsR_one (k : IntKind) (xs : List Int) : ∀ u ∈ nums k xs, u.oneCell' = true := by simp [nums, Value.oneCell']
theorem rd_one (W : World) (a : Int) : Rd (W.alloc (.cells #[.int .u32 a] 27)) (some ⟨W.heap.size, 0, none⟩) 1 1 (nums .u32 [a]) :=
  ⟨by simp, by omega, fun j hj => ⟨_, rfl, by
    have hj0 : j = 0 := by simpa using hj
    subst hj0
    have := heap_alloc_new W (.cells #[.int .u32 a] 27)
    rw [show ((⟨W.heap.size, 0, none⟩ : Addr).add 0) = ⟨W.heap.size, 0, none⟩ from rfl]
    simp only [World.cell?]
    rw [this]
    rfl⟩⟩
/-- What a list less its first place is, in an own row. -/
theorem own_tail {W : World} {base g c n : Nat} {xs : List Int} (h : W.ownsRow base 27 1 (.slice (some ⟨g, 0, none⟩) (n + 1) c) (n + 1) (nums .u32 xs)) : RdI W .u32 (some ⟨g, 1, none⟩) n (xs.drop 1) := by
  have hl : xs.length = n + 1 := by have := h.1; simpa using this
  have hle := (own_rdR h).le
  refine ⟨by simp [hl], by omega, fun j hj => ⟨_, rfl, ?_⟩⟩
  have hj' : j < n := by simpa [hl] using hj
  have hc := h.cellAt (j + 1) (by omega)
  have e1 : (⟨g, 1, none⟩ : Addr).add j = ⟨g, j + 1, none⟩ := by unfold Addr.add; split <;> simp_all <;> omega
  rw [e1, hc]
  simp [nums]
theorem own_cap {w : World} {base g c n sz : Nat} {e : TypeId} {cs : List Value} (h : w.ownsRow base e sz (.slice (some ⟨g, 0, none⟩) n c) n cs) : n ≤ c := by
  rcases h.2 with ⟨h', _⟩ | ⟨g', cap', cur, h', _, _, h1, _⟩
  · simp at h'
  · simp only [Value.slice.injEq, Option.some.injEq, Addr.mk.injEq, and_true, true_and] at h'
    obtain ⟨_, rfl⟩ := h'
    exact h1
theorem Rd.atO {F : Nat → Prop} {w1 w2 : World} {g o : Nat} {n sz : Nat} {cs : List Value} (h : Rd w1 (some ⟨g, o, none⟩) n sz cs) (hu : Upd F w1 w2) (hF : ¬ F g) : Rd w2 (some ⟨g, o, none⟩) n sz cs :=
  ⟨h.len, h.le, fun j hj => by
    obtain ⟨ad, e, hc⟩ := h.cell j hj
    refine ⟨ad, e, ?_⟩
    have e2 := Option.some.inj e
    have h1 : (ad.add j).block = g := by rw [← e2]; unfold Addr.add; split <;> rfl
    have hl := World.block_lt_of_cell? w1 _ hc
    rw [h1] at hl
    rw [← hc]
    simp only [World.cell?, h1, hu.block g hl hF]⟩
theorem rd_nil (W : World) (a : Option Addr) : RdI W .u32 a 0 [] := ⟨by simp [nums], by omega, fun j hj => absurd hj (by simp [nums])⟩

/-- What call hands back: the predictor with another list of returns, in a row of its own. -/
def RetR (t h r : Int) (A : Option Addr) (n c : Nat) (hist : Int) (L : List Int) (w : World) (v : Value) (w' : World) : Prop :=
  ∃ g o n' c', v = .agg #[.int .i64 t, .int .i64 h, .int .i64 r, .slice A n c, .int .u32 hist, .slice (some ⟨g, o, none⟩) n' c'] ∧ L.length = n' ∧ RdI w' .u32 (some ⟨g, o, none⟩) n' L ∧ Below w.heap.size w w' ∧ w.heap.size ≤ g
def RetE (t h r : Int) (A : Option Addr) (n c : Nat) (hist : Int) (L : List Int) (w : World) (e : Ending) (w' : World) : Prop := ∃ v, e = .returned v ∧ RetR t h r A n c hist L w v w'

attribute [local irreducible] World.setCell in
set_option maxRecDepth 100000 in
set_option maxHeartbeats 2000000 in
theorem rcall_any (t h r : Int) (A R : Option Addr) (c rc : Nat) (cs rs : List Int) (hist : Int) (a : Int) (w : World) (H : RdP w A c cs R rc rs) (hl : rs.length ≤ 1000) (hr : 0 ≤ r) :
    Calls Tryz.prog 76 #[.agg #[.int .i64 t, .int .i64 h, .int .i64 r, .slice A cs.length c, .int .u32 hist, .slice R rs.length rc], .int .u32 a] w (RetE t h r A cs.length c hist (callL r rs a) w) := by
  obtain ⟨W0, hW0⟩ : ∃ W0, (w.alloc (.cells #[.int .i64 t, .int .i64 h, .int .i64 r, .slice A cs.length c, .int .u32 hist, .slice R rs.length rc] 50)).alloc (.cells #[.int .i64 0, .int .i64 0, .int .i64 0, .slice none 0 0, .int .u32 0, .slice none 0 0] 50) = W0 := ⟨_, rfl⟩
  have hb0 : Below w.heap.size w W0 := by rw [← hW0]; exact ((Below.refl _ _).alloc (Nat.le_refl _) _).alloc (by simp) _
  have hx0 : W0.heap[w.heap.size]? = some (.cells #[.int .i64 t, .int .i64 h, .int .i64 r, .slice A cs.length c, .int .u32 hist, .slice R rs.length rc] 50 (0, 0)) := by rw [← hW0]; exact (heap_alloc_old _ _ (by simp)).trans (heap_alloc_new w _)
  have hx1 : W0.heap[w.heap.size + 1]? = some (.cells #[.int .i64 0, .int .i64 0, .int .i64 0, .slice none 0 0, .int .u32 0, .slice none 0 0] 50 (0, 0)) := by rw [← hW0]; exact alloc_at _ _ _ (by simp)
  have hs0 : w.heap.size + 2 ≤ W0.heap.size := by rw [← hW0]; simp
  obtain ⟨i0, hi0, hz0, hz1, hz2⟩ := info_parts info_u32
  -- the first append
  obtain ⟨W1, hW1⟩ : ∃ W, W0.alloc (.cells #[] 27) = W := ⟨_, rfl⟩
  have hb1 : Below W0.heap.size W0 W1 := by rw [← hW1]; exact balloc _ _
  have ho1 : W1.ownsRow W0.heap.size 27 1 (.slice (some ⟨W0.heap.size, 0, none⟩) 0 0) 0 [] := by rw [← hW1]; exact World.ownsRow_lit (base := W0.heap.size) (e := 27) (size := 1) W0 #[] 0 (Nat.le_refl _) (by decide) rfl
  have hr1 : RdI W1 .u32 R rs.length rs := Rd.below (Rd.below H.ret hb0) hb1
  obtain ⟨v2, W2, run2, ho2, hg2⟩ := app_any (P := Tryz.prog) (t := 28) (ty := 28) (c := rc) Tryz.underlying28 hi0 hz0 hz1 hz2 rfl ho1 hr1 (numsR_one _ _) (by unfold maxLen; omega) (by omega) hb1.size
  rw [Nat.zero_add, List.nil_append] at ho2
  have hb2 : Below W0.heap.size W0 W2 := hb1.trans ((Upd.of_grown hg2).below hb1.size fun k hk => by have e : W0.heap.size = k := Option.some.inj hk; omega)
  -- the second one
  obtain ⟨W3, hW3⟩ : ∃ W, W2.alloc (.cells #[.int .u32 a] 27) = W := ⟨_, rfl⟩
  have hb3 : Below W0.heap.size W0 W3 := by rw [← hW3]; exact hb2.alloc hb2.size _
  have ho3 : W3.ownsRow W0.heap.size 27 1 v2 rs.length (nums .u32 rs) := by rw [← hW3]; exact ho2.alloc _
  have hr3 : Rd W3 (some ⟨W2.heap.size, 0, none⟩) 1 1 (nums .u32 [a]) := by rw [← hW3]; exact rd_one W2 a
  obtain ⟨v4, W4, run4, ho4, hg4⟩ := app_any (P := Tryz.prog) (t := 28) (ty := 28) (c := 1) Tryz.underlying28 hi0 hz0 hz1 hz2 rfl ho3 hr3 (numsR_one _ _) (by unfold maxLen; omega) (by omega) hb3.size
  rw [← nums_append] at ho4
  have hb4 : Below W0.heap.size W0 W4 := hb3.trans ((Upd.of_grown hg4).below hb3.size fun k hk => (ho3.lt k hk).1)
  obtain ⟨g, c4, rfl⟩ := own_slice ho4 (by omega)
  have hg := ho4.lt g rfl
  obtain ⟨c0, c1, c2, c3, c4', c5, _⟩ := box6 (belowBox hb1 hx0)
  have hx04 := belowBox hb4 hx0
  have hx14 := belowBox hb4 hx1
  obtain ⟨d0, d1, d2, d3, d4, d5, d6⟩ := box6 hx04
  have HX0 := Lib.hid hx04
  have HX1 := Lib.hid hx14
  have HB4 := Lib.hid (hb0.trans (hb4.mono hb0.size))
  have HO4 := Lib.hid ho4
  have HG := Lib.hid hg
  have HS0 := Lib.hid hs0
  have hcl : (r < ((rs.length : Int) + 1) ∧ callL r rs a = (rs ++ [a]).drop 1) ∨ (¬ r < ((rs.length : Int) + 1) ∧ callL r rs a = rs ++ [a]) := by
    unfold callL
    rw [List.length_append, List.length_singleton]
    by_cases hc : r < ((rs.length : Int) + 1)
    · exact .inl ⟨hc, by rw [decide_eq_true (show r < ((rs.length + 1 : Nat) : Int) by omega)]⟩
    · exact .inr ⟨hc, by rw [decide_eq_false (show ¬ r < ((rs.length + 1 : Nat) : Int) by omega)]⟩
  clear H hx0 hx1 hx04 hx14 hb0 hb1 hb2 hb3 hb4 ho1 ho2 ho3 ho4 hr1 hr3 hg2 hg4 hg hs0 hi0 hz0 hz1 hz2
  have HW := Lib.hid (show w.heap.size + 2 ≤ g by have := HG.out; have := HS0.out; omega)
  rcases hcl with ⟨hc, hcl⟩ | ⟨hc, hcl⟩
  · rw [hcl]
    clear hcl
    have hcap := own_cap HO4.out
    have HTL := Lib.hid (own_tail HO4.out)
    by_cases hc1 : c4 = 1
    · subst hc1
      have hrs : rs.length = 0 := by omega
      have HRS := Lib.hid (show rs = [] from List.eq_nil_of_length_eq_zero hrs)
      clear hrs
      obtain ⟨W5, hW5⟩ : ∃ W, W4.setCell ⟨w.heap.size, 5, none⟩ (.slice (some ⟨g, 0, none⟩) 0 0) = W := ⟨_, rfl⟩
      have hu5 : Upd (fun k => k = w.heap.size) W4 W5 := by rw [← hW5]; exact Upd.setCell W4 ⟨w.heap.size, 5, none⟩ _
      have hx5 : W5.heap[w.heap.size]? = some (.cells #[.int .i64 t, .int .i64 h, .int .i64 r, .slice A cs.length c, .int .u32 hist, .slice (some ⟨g, 0, none⟩) 0 0] 50 (0, 0)) := by rw [← hW5]; exact set1_heap HX0.out 5 _
      have hx5b := (hu5.block (w.heap.size + 1) (Array.getElem?_eq_some_iff.1 HX1.out).1 (fun (e : w.heap.size + 1 = w.heap.size) => by omega)).trans HX1.out
      have HX5b := Lib.hid hx5b
      obtain ⟨e0, e1, e2, e3, e4, e5, e6⟩ := box6 hx5
      obtain ⟨g0, g1, g2, g3, g4, g5, g6⟩ := box6 hx5b
      have HB5 := Lib.hid (HB4.out.trans (hu5.below HB4.out.size fun k (e : k = w.heap.size) => by omega))
      have HU5 := Lib.hid hu5
      clear hu5 hx5 hx5b
      go_enter Tryz.func76, Tryz.ntmps76
      go_wp2_with (at_builtin; first | refine Lib.wpList_append_run _ rfl (.tmp 6) (.tmp 8) _ _ rfl _ _ rfl rfl _ _ run2 ?_ | refine Lib.wpList_append_run _ rfl (.tmp 9) (.tmp 11) _ _ rfl _ _ rfl rfl _ _ run4 ?_)
      (try simp only [Exit.inBlock, Exit.then])
      refine bodyPost_ret (v := .agg #[.int .i64 t, .int .i64 h, .int .i64 r, .slice A cs.length c, .int .u32 hist, .slice (some ⟨g, 0, none⟩) 0 0]) (results_cell1 rfl rfl (run_loadVar_row (P := Tryz.prog) _ _ 50 50 _ (0, 0) _ (set6_heap HX5b.out _ _ _ _ _ _) Tryz.underlying50 rfl (by kernel_rfl))) rfl ?_
      refine ⟨_, rfl, g, 0, 0, 0, rfl, ?_, ?_, bset6 HB5.out (by omega) _ _ _ _ _ _, by have := HW.out; omega⟩
      · rw [HRS.out]; rfl
      · rw [HRS.out]; exact rd_nil _ _
    · have hc2 : ¬ 1 = c4 := fun e => hc1 e.symm
      have hc3 : 1 ≤ c4 := by omega
      obtain ⟨W5, hW5⟩ : ∃ W, W4.setCell ⟨w.heap.size, 5, none⟩ (.slice (some ⟨g, 1, none⟩) rs.length (c4 - 1)) = W := ⟨_, rfl⟩
      have hu5 : Upd (fun k => k = w.heap.size) W4 W5 := by rw [← hW5]; exact Upd.setCell W4 ⟨w.heap.size, 5, none⟩ _
      have hx5 : W5.heap[w.heap.size]? = some (.cells #[.int .i64 t, .int .i64 h, .int .i64 r, .slice A cs.length c, .int .u32 hist, .slice (some ⟨g, 1, none⟩) rs.length (c4 - 1)] 50 (0, 0)) := by rw [← hW5]; exact set1_heap HX0.out 5 _
      have hx5b := (hu5.block (w.heap.size + 1) (Array.getElem?_eq_some_iff.1 HX1.out).1 (fun (e : w.heap.size + 1 = w.heap.size) => by omega)).trans HX1.out
      have HX5b := Lib.hid hx5b
      obtain ⟨e0, e1, e2, e3, e4, e5, e6⟩ := box6 hx5
      obtain ⟨g0, g1, g2, g3, g4, g5, g6⟩ := box6 hx5b
      have HB5 := Lib.hid (HB4.out.trans (hu5.below HB4.out.size fun k (e : k = w.heap.size) => by omega))
      have HU5 := Lib.hid hu5
      clear hu5 hx5 hx5b
      go_enter Tryz.func76, Tryz.ntmps76
      go_wp2_with (at_builtin; first | refine Lib.wpList_append_run _ rfl (.tmp 6) (.tmp 8) _ _ rfl _ _ rfl rfl _ _ run2 ?_ | refine Lib.wpList_append_run _ rfl (.tmp 9) (.tmp 11) _ _ rfl _ _ rfl rfl _ _ run4 ?_)
      (try simp only [Exit.inBlock, Exit.then])
      refine bodyPost_ret (v := .agg #[.int .i64 t, .int .i64 h, .int .i64 r, .slice A cs.length c, .int .u32 hist, .slice (some ⟨g, 1, none⟩) rs.length (c4 - 1)]) (results_cell1 rfl rfl (run_loadVar_row (P := Tryz.prog) _ _ 50 50 _ (0, 0) _ (set6_heap HX5b.out _ _ _ _ _ _) Tryz.underlying50 rfl (by kernel_rfl))) rfl ?_
      refine ⟨_, rfl, g, 1, rs.length, (c4 - 1), rfl, ?_, ?_, bset6 HB5.out (by omega) _ _ _ _ _ _, by have := HW.out; omega⟩
      · simp
      · exact Rd.atO HTL.out (((HU5.out.mono (G := fun k => k = w.heap.size ∨ k = w.heap.size + 1) fun k h => .inl h)).trans ((uset6 W5 (w.heap.size + 1) _ _ _ _ _ _).mono (G := fun k => k = w.heap.size ∨ k = w.heap.size + 1) fun k h => .inr h) fun k h => .inl h) (by have := HW.out; omega)
  · rw [hcl]
    clear hcl
    obtain ⟨W5, hW5⟩ : ∃ W, W4.setCell ⟨w.heap.size, 5, none⟩ (.slice (some ⟨g, 0, none⟩) (rs.length + 1) c4) = W := ⟨_, rfl⟩
    have hu5 : Upd (fun k => k = w.heap.size) W4 W5 := by rw [← hW5]; exact Upd.setCell W4 ⟨w.heap.size, 5, none⟩ _
    have hx5 : W5.heap[w.heap.size]? = some (.cells #[.int .i64 t, .int .i64 h, .int .i64 r, .slice A cs.length c, .int .u32 hist, .slice (some ⟨g, 0, none⟩) (rs.length + 1) c4] 50 (0, 0)) := by rw [← hW5]; exact set1_heap HX0.out 5 _
    have hx5b := (hu5.block (w.heap.size + 1) (Array.getElem?_eq_some_iff.1 HX1.out).1 (fun (e : w.heap.size + 1 = w.heap.size) => by omega)).trans HX1.out
    have HX5b := Lib.hid hx5b
    obtain ⟨e0, e1, e2, e3, e4, e5, e6⟩ := box6 hx5
    obtain ⟨g0, g1, g2, g3, g4, g5, g6⟩ := box6 hx5b
    have HB5 := Lib.hid (HB4.out.trans (hu5.below HB4.out.size fun k (e : k = w.heap.size) => by omega))
    have HU5 := Lib.hid hu5
    clear hu5 hx5 hx5b
    go_enter Tryz.func76, Tryz.ntmps76
    go_wp2_with (at_builtin; first | refine Lib.wpList_append_run _ rfl (.tmp 6) (.tmp 8) _ _ rfl _ _ rfl rfl _ _ run2 ?_ | refine Lib.wpList_append_run _ rfl (.tmp 9) (.tmp 11) _ _ rfl _ _ rfl rfl _ _ run4 ?_)
    (try simp only [Exit.inBlock, Exit.then])
    refine bodyPost_ret (v := .agg #[.int .i64 t, .int .i64 h, .int .i64 r, .slice A cs.length c, .int .u32 hist, .slice (some ⟨g, 0, none⟩) (rs.length + 1) c4]) (results_cell1 rfl rfl (run_loadVar_row (P := Tryz.prog) _ _ 50 50 _ (0, 0) _ (set6_heap HX5b.out _ _ _ _ _ _) Tryz.underlying50 rfl (by kernel_rfl))) rfl ?_
    refine ⟨_, rfl, g, 0, (rs.length + 1), c4, rfl, ?_, ?_, bset6 HB5.out (by omega) _ _ _ _ _ _, by have := HW.out; omega⟩
    · simp
    · exact Rd.at1 (own_rdR HO4.out) (((HU5.out.mono (G := fun k => k = w.heap.size ∨ k = w.heap.size + 1) fun k h => .inl h)).trans ((uset6 W5 (w.heap.size + 1) _ _ _ _ _ _).mono (G := fun k => k = w.heap.size ∨ k = w.heap.size + 1) fun k h => .inr h) fun k h => .inl h) (by have := HW.out; omega)
end Go.Proofs.YtdkacdfhapgboaaGreat

/- The specification's caches: shapes, lines, find. -/
set_option linter.unusedVariables false
set_option linter.unusedSimpArgs false
namespace Go.Proofs.YtdkacdfhapgboaaGreat
open Go.RowKit

def pw4 (n : Int) : Bool := ([4, 8, 16, 32, 64, 128, 256] : List Int).contains n
theorem pw4_eq (n : Int) : powerB n 4 256 = pw4 n := by
  by_cases h : 0 ≤ n ∧ n ≤ 256
  · obtain ⟨m, rfl⟩ := Int.eq_ofNat_of_zero_le h.1
    have hall : ∀ m : Fin 257, powerB ((m.val : Nat) : Int) 4 256 = pw4 ((m.val : Nat) : Int) := by decide +kernel
    exact hall ⟨m, by omega⟩
  · have h1 : powerB n 4 256 = false := by
      unfold powerB
      by_cases h1 : (4 : Int) ≤ n
      · rw [decide_eq_true h1, decide_eq_false (show ¬ n ≤ 256 by omega)]; rfl
      · rw [decide_eq_false h1]; rfl
    have h2 : pw4 n = false := by
      unfold pw4
      rw [List.contains_eq_mem, decide_eq_false]
      intro hm
      simp only [List.mem_cons, List.mem_nil_iff, or_false] at hm
      omega
    rw [h1, h2]
set_option maxHeartbeats 2000000 in
theorem rpw4_any (n : Int) (w : World) : Calls Tryz.prog 97 #[.int .i64 n, .int .i64 4, .int .i64 256] w fun e w' => e = .returned (.bool (pw4 n)) ∧ w = w' := by
  go_enter Tryz.func97, Tryz.ntmps97
  go_wp2
  go_loop [7] (fun i => ∃ k : Int, i = .int .i64 k ∧ Hid (∀ m ∈ ([4, 8, 16, 32, 64, 128, 256] : List Int), m < k → n ≠ m) ∧ (k = 4 ∨ k = 8 ∨ k = 16 ∨ k = 32 ∨ k = 64 ∨ k = 128 ∨ k = 256 ∨ k = 512)) (fun i => (512 - intOf i).toNat)
  case atStart => exact ⟨4, rfl, Lib.hid (by intro m hm hlt; simp only [List.mem_cons, List.mem_nil_iff, or_false] at hm; omega), .inl rfl⟩
  case round =>
    obtain ⟨k, rfl, hno, hk⟩ := hrel
    rcases hk with rfl | rfl | rfl | rfl | rfl | rfl | rfl | rfl
    · by_cases he : n = 4
      · subst he
        have HQ := Lib.hid (show pw4 4 = true by decide)
        go_wp2
        go_ret
        exact ⟨by rw [HQ.out]; rfl, rfl⟩
      · have HNE := Lib.hid he
        go_wp2
        go_round
        case rel => exact ⟨8, rfl, Lib.hid (by intro m hm hlt; by_cases h2 : m < 4; exact hno.out m hm h2; simp only [List.mem_cons, List.mem_nil_iff, or_false] at hm; have := HNE.out; omega), by decide⟩
        case measure => simp [intOf]
    · by_cases he : n = 8
      · subst he
        have HQ := Lib.hid (show pw4 8 = true by decide)
        go_wp2
        go_ret
        exact ⟨by rw [HQ.out]; rfl, rfl⟩
      · have HNE := Lib.hid he
        go_wp2
        go_round
        case rel => exact ⟨16, rfl, Lib.hid (by intro m hm hlt; by_cases h2 : m < 8; exact hno.out m hm h2; simp only [List.mem_cons, List.mem_nil_iff, or_false] at hm; have := HNE.out; omega), by decide⟩
        case measure => simp [intOf]
    · by_cases he : n = 16
      · subst he
        have HQ := Lib.hid (show pw4 16 = true by decide)
        go_wp2
        go_ret
        exact ⟨by rw [HQ.out]; rfl, rfl⟩
      · have HNE := Lib.hid he
        go_wp2
        go_round
        case rel => exact ⟨32, rfl, Lib.hid (by intro m hm hlt; by_cases h2 : m < 16; exact hno.out m hm h2; simp only [List.mem_cons, List.mem_nil_iff, or_false] at hm; have := HNE.out; omega), by decide⟩
        case measure => simp [intOf]
    · by_cases he : n = 32
      · subst he
        have HQ := Lib.hid (show pw4 32 = true by decide)
        go_wp2
        go_ret
        exact ⟨by rw [HQ.out]; rfl, rfl⟩
      · have HNE := Lib.hid he
        go_wp2
        go_round
        case rel => exact ⟨64, rfl, Lib.hid (by intro m hm hlt; by_cases h2 : m < 32; exact hno.out m hm h2; simp only [List.mem_cons, List.mem_nil_iff, or_false] at hm; have := HNE.out; omega), by decide⟩
        case measure => simp [intOf]
    · by_cases he : n = 64
      · subst he
        have HQ := Lib.hid (show pw4 64 = true by decide)
        go_wp2
        go_ret
        exact ⟨by rw [HQ.out]; rfl, rfl⟩
      · have HNE := Lib.hid he
        go_wp2
        go_round
        case rel => exact ⟨128, rfl, Lib.hid (by intro m hm hlt; by_cases h2 : m < 64; exact hno.out m hm h2; simp only [List.mem_cons, List.mem_nil_iff, or_false] at hm; have := HNE.out; omega), by decide⟩
        case measure => simp [intOf]
    · by_cases he : n = 128
      · subst he
        have HQ := Lib.hid (show pw4 128 = true by decide)
        go_wp2
        go_ret
        exact ⟨by rw [HQ.out]; rfl, rfl⟩
      · have HNE := Lib.hid he
        go_wp2
        go_round
        case rel => exact ⟨256, rfl, Lib.hid (by intro m hm hlt; by_cases h2 : m < 128; exact hno.out m hm h2; simp only [List.mem_cons, List.mem_nil_iff, or_false] at hm; have := HNE.out; omega), by decide⟩
        case measure => simp [intOf]
    · by_cases he : n = 256
      · subst he
        have HQ := Lib.hid (show pw4 256 = true by decide)
        go_wp2
        go_ret
        exact ⟨by rw [HQ.out]; rfl, rfl⟩
      · have HNE := Lib.hid he
        go_wp2
        go_round
        case rel => exact ⟨512, rfl, Lib.hid (by intro m hm hlt; by_cases h2 : m < 256; exact hno.out m hm h2; simp only [List.mem_cons, List.mem_nil_iff, or_false] at hm; have := HNE.out; omega), by decide⟩
        case measure => simp [intOf]
    · have HQ := Lib.hid (show pw4 n = false by
        unfold pw4
        rw [List.contains_eq_mem, decide_eq_false]
        intro hm
        refine hno.out n hm ?_ rfl
        simp only [List.mem_cons, List.mem_nil_iff, or_false] at hm
        omega)
      go_wp2
      go_ret
      exact ⟨by rw [HQ.out]; rfl, rfl⟩

def pw1 (n : Int) : Bool := ([1, 2, 4, 8, 16, 32, 64, 128, 256, 512, 1024] : List Int).contains n
theorem pw1_eq (n : Int) : powerB n 1 1024 = pw1 n := by
  by_cases h : 0 ≤ n ∧ n ≤ 1024
  · obtain ⟨m, rfl⟩ := Int.eq_ofNat_of_zero_le h.1
    have hall : ∀ m : Fin 1025, powerB ((m.val : Nat) : Int) 1 1024 = pw1 ((m.val : Nat) : Int) := by decide +kernel
    exact hall ⟨m, by omega⟩
  · have h1 : powerB n 1 1024 = false := by
      unfold powerB
      by_cases h1 : (1 : Int) ≤ n
      · rw [decide_eq_true h1, decide_eq_false (show ¬ n ≤ 1024 by omega)]; rfl
      · rw [decide_eq_false h1]; rfl
    have h2 : pw1 n = false := by
      unfold pw1
      rw [List.contains_eq_mem, decide_eq_false]
      intro hm
      simp only [List.mem_cons, List.mem_nil_iff, or_false] at hm
      omega
    rw [h1, h2]
set_option maxHeartbeats 2000000 in
theorem rpw1_any (n : Int) (w : World) : Calls Tryz.prog 97 #[.int .i64 n, .int .i64 1, .int .i64 1024] w fun e w' => e = .returned (.bool (pw1 n)) ∧ w = w' := by
  go_enter Tryz.func97, Tryz.ntmps97
  go_wp2
  go_loop [7] (fun i => ∃ k : Int, i = .int .i64 k ∧ Hid (∀ m ∈ ([1, 2, 4, 8, 16, 32, 64, 128, 256, 512, 1024] : List Int), m < k → n ≠ m) ∧ (k = 1 ∨ k = 2 ∨ k = 4 ∨ k = 8 ∨ k = 16 ∨ k = 32 ∨ k = 64 ∨ k = 128 ∨ k = 256 ∨ k = 512 ∨ k = 1024 ∨ k = 2048)) (fun i => (2048 - intOf i).toNat)
  case atStart => exact ⟨1, rfl, Lib.hid (by intro m hm hlt; simp only [List.mem_cons, List.mem_nil_iff, or_false] at hm; omega), .inl rfl⟩
  case round =>
    obtain ⟨k, rfl, hno, hk⟩ := hrel
    rcases hk with rfl | rfl | rfl | rfl | rfl | rfl | rfl | rfl | rfl | rfl | rfl | rfl
    · by_cases he : n = 1
      · subst he
        have HQ := Lib.hid (show pw1 1 = true by decide)
        go_wp2
        go_ret
        exact ⟨by rw [HQ.out]; rfl, rfl⟩
      · have HNE := Lib.hid he
        go_wp2
        go_round
        case rel => exact ⟨2, rfl, Lib.hid (by intro m hm hlt; by_cases h2 : m < 1; exact hno.out m hm h2; simp only [List.mem_cons, List.mem_nil_iff, or_false] at hm; have := HNE.out; omega), by decide⟩
        case measure => simp [intOf]
    · by_cases he : n = 2
      · subst he
        have HQ := Lib.hid (show pw1 2 = true by decide)
        go_wp2
        go_ret
        exact ⟨by rw [HQ.out]; rfl, rfl⟩
      · have HNE := Lib.hid he
        go_wp2
        go_round
        case rel => exact ⟨4, rfl, Lib.hid (by intro m hm hlt; by_cases h2 : m < 2; exact hno.out m hm h2; simp only [List.mem_cons, List.mem_nil_iff, or_false] at hm; have := HNE.out; omega), by decide⟩
        case measure => simp [intOf]
    · by_cases he : n = 4
      · subst he
        have HQ := Lib.hid (show pw1 4 = true by decide)
        go_wp2
        go_ret
        exact ⟨by rw [HQ.out]; rfl, rfl⟩
      · have HNE := Lib.hid he
        go_wp2
        go_round
        case rel => exact ⟨8, rfl, Lib.hid (by intro m hm hlt; by_cases h2 : m < 4; exact hno.out m hm h2; simp only [List.mem_cons, List.mem_nil_iff, or_false] at hm; have := HNE.out; omega), by decide⟩
        case measure => simp [intOf]
    · by_cases he : n = 8
      · subst he
        have HQ := Lib.hid (show pw1 8 = true by decide)
        go_wp2
        go_ret
        exact ⟨by rw [HQ.out]; rfl, rfl⟩
      · have HNE := Lib.hid he
        go_wp2
        go_round
        case rel => exact ⟨16, rfl, Lib.hid (by intro m hm hlt; by_cases h2 : m < 8; exact hno.out m hm h2; simp only [List.mem_cons, List.mem_nil_iff, or_false] at hm; have := HNE.out; omega), by decide⟩
        case measure => simp [intOf]
    · by_cases he : n = 16
      · subst he
        have HQ := Lib.hid (show pw1 16 = true by decide)
        go_wp2
        go_ret
        exact ⟨by rw [HQ.out]; rfl, rfl⟩
      · have HNE := Lib.hid he
        go_wp2
        go_round
        case rel => exact ⟨32, rfl, Lib.hid (by intro m hm hlt; by_cases h2 : m < 16; exact hno.out m hm h2; simp only [List.mem_cons, List.mem_nil_iff, or_false] at hm; have := HNE.out; omega), by decide⟩
        case measure => simp [intOf]
    · by_cases he : n = 32
      · subst he
        have HQ := Lib.hid (show pw1 32 = true by decide)
        go_wp2
        go_ret
        exact ⟨by rw [HQ.out]; rfl, rfl⟩
      · have HNE := Lib.hid he
        go_wp2
        go_round
        case rel => exact ⟨64, rfl, Lib.hid (by intro m hm hlt; by_cases h2 : m < 32; exact hno.out m hm h2; simp only [List.mem_cons, List.mem_nil_iff, or_false] at hm; have := HNE.out; omega), by decide⟩
        case measure => simp [intOf]
    · by_cases he : n = 64
      · subst he
        have HQ := Lib.hid (show pw1 64 = true by decide)
        go_wp2
        go_ret
        exact ⟨by rw [HQ.out]; rfl, rfl⟩
      · have HNE := Lib.hid he
        go_wp2
        go_round
        case rel => exact ⟨128, rfl, Lib.hid (by intro m hm hlt; by_cases h2 : m < 64; exact hno.out m hm h2; simp only [List.mem_cons, List.mem_nil_iff, or_false] at hm; have := HNE.out; omega), by decide⟩
        case measure => simp [intOf]
    · by_cases he : n = 128
      · subst he
        have HQ := Lib.hid (show pw1 128 = true by decide)
        go_wp2
        go_ret
        exact ⟨by rw [HQ.out]; rfl, rfl⟩
      · have HNE := Lib.hid he
        go_wp2
        go_round
        case rel => exact ⟨256, rfl, Lib.hid (by intro m hm hlt; by_cases h2 : m < 128; exact hno.out m hm h2; simp only [List.mem_cons, List.mem_nil_iff, or_false] at hm; have := HNE.out; omega), by decide⟩
        case measure => simp [intOf]
    · by_cases he : n = 256
      · subst he
        have HQ := Lib.hid (show pw1 256 = true by decide)
        go_wp2
        go_ret
        exact ⟨by rw [HQ.out]; rfl, rfl⟩
      · have HNE := Lib.hid he
        go_wp2
        go_round
        case rel => exact ⟨512, rfl, Lib.hid (by intro m hm hlt; by_cases h2 : m < 256; exact hno.out m hm h2; simp only [List.mem_cons, List.mem_nil_iff, or_false] at hm; have := HNE.out; omega), by decide⟩
        case measure => simp [intOf]
    · by_cases he : n = 512
      · subst he
        have HQ := Lib.hid (show pw1 512 = true by decide)
        go_wp2
        go_ret
        exact ⟨by rw [HQ.out]; rfl, rfl⟩
      · have HNE := Lib.hid he
        go_wp2
        go_round
        case rel => exact ⟨1024, rfl, Lib.hid (by intro m hm hlt; by_cases h2 : m < 512; exact hno.out m hm h2; simp only [List.mem_cons, List.mem_nil_iff, or_false] at hm; have := HNE.out; omega), by decide⟩
        case measure => simp [intOf]
    · by_cases he : n = 1024
      · subst he
        have HQ := Lib.hid (show pw1 1024 = true by decide)
        go_wp2
        go_ret
        exact ⟨by rw [HQ.out]; rfl, rfl⟩
      · have HNE := Lib.hid he
        go_wp2
        go_round
        case rel => exact ⟨2048, rfl, Lib.hid (by intro m hm hlt; by_cases h2 : m < 1024; exact hno.out m hm h2; simp only [List.mem_cons, List.mem_nil_iff, or_false] at hm; have := HNE.out; omega), by decide⟩
        case measure => simp [intOf]
    · have HQ := Lib.hid (show pw1 n = false by
        unfold pw1
        rw [List.contains_eq_mem, decide_eq_false]
        intro hm
        refine hno.out n hm ?_ rfl
        simp only [List.mem_cons, List.mem_nil_iff, or_false] at hm
        omega)
      go_wp2
      go_ret
      exact ⟨by rw [HQ.out]; rfl, rfl⟩

set_option maxRecDepth 100000 in
set_option maxHeartbeats 1000000 in
theorem rshape_any (a b c : Int) (w : World) : Calls Tryz.prog 55 #[.agg #[.int .i64 a, .int .i64 b, .int .i64 c]] w fun e w' => e = .returned (.bool (shapeB a b c)) ∧ Below w.heap.size w w' := by
  have e1 := pw4_eq a
  have e2 := pw1_eq b
  have hs : shapeB a b c = (pw4 a && (pw1 b && (decide (1 ≤ c) && decide (c ≤ 16)))) := by unfold shapeB; rw [e1, e2]
  rw [hs]
  clear hs e1 e2
  cases h1 : pw4 a <;> cases h2 : pw1 b <;> cases h3 : decide (1 ≤ c) <;> cases h4 : decide (c ≤ 16)
  all_goals
    have H1 := Lib.hid h1
    have H2 := Lib.hid h2
    clear h1 h2
    go_enter Tryz.func55, Tryz.ntmps55
    go_wp2_with (first | (go_at_call 97; (with_reducible refine (rpw4_any _ _).mono ?_); rintro e w' ⟨rfl, rfl⟩; rw [H1.out]) | (go_at_call 97; (with_reducible refine (rpw1_any _ _).mono ?_); rintro e w' ⟨rfl, rfl⟩; rw [H2.out]))
    go_ret
    exact ⟨rfl, balloc w _⟩
set_option maxRecDepth 100000 in
theorem rcheckShape_any (a b c : Int) (w : World) : Calls Tryz.prog 11 #[.agg #[.int .i64 a, .int .i64 b, .int .i64 c]] w fun e w' => e = .returned (.int .i64 (if shapeB a b c = true then 0 else 330)) ∧ Below w.heap.size w w' := by
  cases hs : shapeB a b c
  all_goals
    have HS := Lib.hid hs
    clear hs
    go_enter Tryz.func11, Tryz.ntmps11
    go_wp2_with fail
    refine (rshape_any a b c _).mono ?_
    rintro e W ⟨rfl, hb⟩
    rw [HS.out]
    go_wp2
    go_ret
    exact ⟨rfl, bvia (balloc w _) hb (Nat.le_refl _)⟩
theorem rlines_any (line sets ways : Int) (hl : 1 ≤ line ∧ line ≤ 4294967296) (w : World) : Calls Tryz.prog 99 #[.agg #[.int .i64 line, .int .i64 sets, .int .i64 ways]] w fun e w' => e = .returned (.int .u64 (4294967296 / line)) ∧ Below w.heap.size w w' := by
  obtain ⟨l1, l2⟩ := hl
  have hw : IntKind.u64.wrap line = line := IntWalk.u64_in _ (by omega)
  have h0 : ¬ line = 0 := by omega
  have hq : (4294967296 : Int).tdiv line = 4294967296 / line := Int.tdiv_eq_ediv_of_nonneg (by omega)
  have hq1 : 0 ≤ (4294967296 : Int) / line := Int.ediv_nonneg (by omega) (by omega)
  have hq2 : (4294967296 : Int) / line ≤ 4294967296 := Int.ediv_le_self _ (by omega)
  obtain ⟨q, hqq⟩ : ∃ q, (4294967296 : Int) / line = q := ⟨_, rfl⟩
  rw [hqq] at hq hq1 hq2 ⊢
  have hqw : IntKind.u64.wrap q = q := IntWalk.u64_in _ (by omega)
  go_enter Tryz.func99, Tryz.ntmps99
  go_wp2
  go_ret
  exact ⟨rfl, balloc w _⟩
set_option maxHeartbeats 1000000 in
theorem rfind_any (A : Option Addr) (n c : Nat) (xs : List Int) (x : Int) (w : World) (h : RdI w .u32 A n xs) :
    Calls Tryz.prog 100 #[.slice A n c, .int .u32 x] w fun e w' => e = .returned (.int .i64 (idxI xs x)) ∧ w = w' := by
  have hle := h.le
  have H := Lib.hid h
  clear h
  go_enter Tryz.func100, Tryz.ntmps100
  go_wp2
  go_loop [5] (fun i => ∃ k : Nat, k ≤ n ∧ i = .int .i64 k ∧ Hid (∀ j, j < k → gi xs j ≠ x)) (fun i => n - (intOf i).toNat)
  case atStart => exact ⟨0, Nat.zero_le _, rfl, Lib.hid (fun j hj => absurd hj (Nat.not_lt_zero _))⟩
  case round =>
    obtain ⟨k, hk, rfl, hne⟩ := hrel
    by_cases hlt : k < n
    · obtain ⟨ad, rfl, hc⟩ := RdI.at H.out k hlt
      cases hx : (gi xs k == x)
      · have HX := Lib.hid hx
        go_wp2
        go_round
        case rel => exact ⟨k + 1, by omega, by go_num, fun j hj => by rcases Nat.lt_succ_iff_lt_or_eq.1 hj with h | rfl; exact hne.out j h; exact fun e => by have := HX.out; simp [e] at this⟩
        case measure => simp [intOf]; omega
      · have HX := Lib.hid hx
        go_wp2
        go_ret
        refine ⟨?_, rfl⟩
        rw [idxI_at xs x k (by have := H.out.length; omega) hne.out (by simpa using HX.out)]
        rfl
    · go_wp2
      go_ret
      refine ⟨?_, rfl⟩
      rw [idxI_none xs x (fun j hj => hne.out j (by have := H.out.length; omega))]
      rfl
theorem risSize_any (n : Int) (w : World) : Calls Tryz.prog 61 #[.int .i64 n] w fun e w' => e = .returned (.bool (decide (1 ≤ n) && decide (n ≤ 65536))) ∧ w = w' := by
  cases h1 : decide (1 ≤ n) <;> cases h2 : decide (n ≤ 65536)
  all_goals
    go_enter Tryz.func61, Tryz.ntmps61
    go_wp2
    go_ret
    exact ⟨rfl, rfl⟩
end Go.Proofs.YtdkacdfhapgboaaGreat

/- The specification's caches: IsCache, CheckCache. -/
set_option linter.unusedVariables false
set_option linter.unusedSimpArgs false
namespace Go.Proofs.YtdkacdfhapgboaaGreat
open Go.RowKit

set_option maxRecDepth 100000 in
set_option maxHeartbeats 2000000 in
theorem rIsCache_any (line sets ways : Int) (A : Option Addr) (c : Nat) (vs : List Value) (L : List (List Int)) (w : World) (h : RdSets w A vs L) :
    Calls Tryz.prog 58 #[.agg #[.int .i64 line, .int .i64 sets, .int .i64 ways, .slice A L.length c]] w fun e w' => e = .returned (.bool (decide (cacheOk line sets ways L))) ∧ Below w.heap.size w w' := by
  have hle := h.row.le
  obtain ⟨W0, hW0⟩ : ∃ W0, w.alloc (.cells #[.int .i64 line, .int .i64 sets, .int .i64 ways, .slice A L.length c] 26) = W0 := ⟨_, rfl⟩
  have hb0 : Below w.heap.size w W0 := by rw [← hW0]; exact balloc w _
  have hx0 : W0.heap[w.heap.size]? = some (.cells #[.int .i64 line, .int .i64 sets, .int .i64 ways, .slice A L.length c] 26 (0, 0)) := by rw [← hW0]; exact heap_alloc_new w _
  have c0 := boxAt (i := 0) hx0 rfl
  have c1 := boxAt (i := 1) hx0 rfl
  have c2 := boxAt (i := 2) hx0 rfl
  have HB0 := Lib.hid hb0
  have HX0 := Lib.hid hx0
  have H := Lib.hid (h.below hb0)
  clear h hb0 hx0
  cases hs : shapeB line sets ways
  · have hf : decide (cacheOk line sets ways L) = false := by simp [cacheOk, hs]
    rw [hf]
    have HS := Lib.hid hs
    clear hs hf
    go_enter Tryz.func58, Tryz.ntmps58
    go_wp2_with fail
    refine (rshape_any _ _ _ _).mono ?_
    rintro e W ⟨rfl, hb⟩
    rw [HS.out]
    go_wp2
    go_ret
    exact ⟨rfl, HB0.out.trans (hb.mono HB0.out.size)⟩
  · obtain ⟨a1, a2, a3, a4, a5, a6⟩ := shapeB_line hs
    have HS := Lib.hid hs
    clear hs
    by_cases hsz : (L.length : Int) = sets
    · go_enter Tryz.func58, Tryz.ntmps58
      have HSZ := Lib.hid hsz
      subst hsz
      go_wp2_with fail
      refine (rshape_any _ _ _ _).mono ?_
      rintro e W1 ⟨rfl, hb1⟩
      rw [HS.out]
      have HB1 := Lib.hid (HB0.out.trans (hb1.mono HB0.out.size))
      have HX1 := Lib.hid (belowBox hb1 HX0.out)
      have H1 := Lib.hid (H.out.below hb1)
      have d3 := boxAt (i := 3) HX1.out rfl
      have d1 := boxAt (i := 1) HX1.out rfl
      clear c0 c1 c2 hb1
      go_wp2_with fail
      clear d3 d1
      go_loopw [3] (fun i wr => ∃ k : Nat, k ≤ L.length ∧ i = .int .i64 k ∧ Hid (Below W1.heap.size W1 wr) ∧ Hid (∀ j, j < k → setOk line L.length ways (gl L j) j)) (fun i _ => L.length - (intOf i).toNat)
      case atStart => exact ⟨0, Nat.zero_le _, rfl, Lib.hid (Below.refl _ _), Lib.hid (fun j hj => absurd hj (Nat.not_lt_zero _))⟩
      case round =>
        obtain ⟨k, hk, rfl, hI, hok⟩ := hrel
        obtain ⟨wo, rfl⟩ : ∃ wo, wo = wr := ⟨wr, rfl⟩
        have d3 := boxAt (i := 3) (belowBox hI.out HX1.out) rfl
        by_cases hlt : k < L.length
        · obtain ⟨ad, hA, hc⟩ := (H1.out.below hI.out).at k hlt
          subst hA
          obtain ⟨⟨B, cb, ev, hnil, hcb, hr⟩, hu⟩ := (H1.out.below hI.out).each k hlt
          rw [ev] at hc
          have HR := Lib.hid hr
          have HU := Lib.hid hu
          have hln := hr.le
          have d2 := boxAt (i := 2) (belowBox hI.out HX1.out) rfl
          clear hr hu ev
          by_cases hwy : ((gl L k).length : Int) ≤ ways
          · have hwn : ¬ ways < ((gl L k).length : Int) := by omega
            obtain ⟨l, hl⟩ : ∃ l, gl L k = l := ⟨_, rfl⟩
            rw [hl] at hc HR HU hln hwy hwn hcb
            have HLL := Lib.hid hl
            clear hl
            go_wp2_with fail
            clear d3 d2
            go_loopw [5] (fun i wr => ∃ m : Nat, m ≤ l.length ∧ i = .int .i64 m ∧ Hid (Below wo.heap.size wo wr) ∧ Hid (∀ j, j < m → lineOk line L.length l k j)) (fun i _ => l.length - (intOf i).toNat)
            case atStart => exact ⟨0, Nat.zero_le _, rfl, Lib.hid (Below.refl _ _), Lib.hid (fun j hj => absurd hj (Nat.not_lt_zero _))⟩
            case round =>
              obtain ⟨m, hm, rfl, hJ, hok2⟩ := hrel
              by_cases hlt2 : m < l.length
              · obtain ⟨bd, hBd, hcx⟩ := (show RdI wr .u32 B l.length l from Rd.below HR.out hJ.out).at m hlt2
                subst hBd
                obtain ⟨u1, u2⟩ := HU.out _ (gi_mem l m hlt2)
                have hnot : ¬ lineOk line L.length l k m → decide (cacheOk line L.length ways L) = false := fun hh => decide_eq_false fun h => hh (by have := (h.2.2 k hlt).2 m (by rw [HLL.out]; exact hlt2); rw [HLL.out] at this; exact this)
                have HRT := Lib.hid ((show RdI wr .u32 (some bd) l.length l from Rd.below HR.out hJ.out).take m (by omega))
                obtain ⟨x, hx⟩ : ∃ x, x = gi l m := ⟨_, rfl⟩
                rw [← hx] at hcx u1 u2
                have HX := Lib.hid hx
                have HNOT := Lib.hid hnot
                have hJW := hI.out.trans (hJ.out.mono hI.out.size)
                have e0 := boxAt (i := 0) (belowBox hJW HX1.out) rfl
                have e1 := boxAt (i := 1) (belowBox hJW HX1.out) rfl
                have e2 := boxAt (i := 2) (belowBox hJW HX1.out) rfl
                have f0 := After.cell e0
                have f1 := After.cell e1
                have f2 := After.cell e2
                have f3 := After.cell hcx
                have HBW := Lib.hid (HB1.out.trans (hJW.mono HB1.out.size))
                have HJW := Lib.hid hJW
                have HLN := Lib.hid (fun q : After wr.heap.size wr => rlines_any line L.length ways ⟨by omega, by omega⟩ q.W)
                have HFD := Lib.hid (fun q : After wr.heap.size wr => rfind_any (some bd) m cb (l.take m) x q.W (Rd.below HRT.out q.below))
                have hxu : IntKind.u64.wrap x = x := IntWalk.u64_in _ (by omega)
                have hxi : IntKind.i64.wrap x = x := IntWalk.i64_in _ (by omega)
                have hxm : x.tmod (L.length : Int) = x % (L.length : Int) := Int.tmod_eq_emod_of_nonneg u1
                obtain ⟨s, hs⟩ : ∃ s, x % (L.length : Int) = s := ⟨_, rfl⟩
                have hs0 : 0 ≤ s ∧ s < (L.length : Int) := by rw [← hs]; exact ⟨Int.emod_nonneg _ (by omega), Int.emod_lt_of_pos _ (by omega)⟩
                rw [hs] at hxm
                have hsw : IntKind.i64.wrap s = s := IntWalk.i64_in _ (by omega)
                have hl0 : ¬ (L.length : Int) = 0 := by omega
                have hm0 : (0 : Int) ≤ (m : Int) := by omega
                have hm1 : (m : Int) < (l.length : Int) := by omega
                have hm2 : (m : Int) ≤ (cb : Int) := by omega
                obtain ⟨q, hq⟩ : ∃ q, (4294967296 : Int) / line = q := ⟨_, rfl⟩
                rw [hq] at HLN
                obtain ⟨z, hz⟩ : ∃ z, idxI (l.take m) x = z := ⟨_, rfl⟩
                rw [hz] at HFD
                have hz0 : decide (0 ≤ z) = decide (x ∈ l.take m) := by rw [← hz]; exact idxI_nonneg _ _
                have HQ := Lib.hid hq
                have HSS := Lib.hid hs
                have HZ := Lib.hid hz0
                clear hx hnot hJW e0 e1 e2 hs hq hz hz0 hs0
                have hway : ((decide (q ≤ x) = true ∧ decide (cacheOk line L.length ways L) = false) ∨ (decide (q ≤ x) = false ∧ ((s == (k : Int)) = false ∧ (s != (k : Int)) = true) ∧ decide (cacheOk line L.length ways L) = false) ∨ (decide (q ≤ x) = false ∧ s = (k : Int) ∧ decide (0 ≤ z) = true ∧ decide (cacheOk line L.length ways L) = false)) ∨ (decide (q ≤ x) = false ∧ s = (k : Int) ∧ decide (0 ≤ z) = false ∧ lineOk line L.length l k m) := by
                  by_cases t1 : q ≤ x
                  · exact .inl (.inl ⟨decide_eq_true t1, HNOT.out fun h => by have := h.1; rw [← HX.out, HQ.out] at this; omega⟩)
                  · by_cases t2 : s = (k : Int)
                    · by_cases t3 : x ∈ l.take m
                      · exact .inl (.inr (.inr ⟨decide_eq_false t1, t2, by rw [HZ.out]; exact decide_eq_true t3, HNOT.out fun h => by have := h.2.2; rw [← HX.out] at this; exact this t3⟩))
                      · exact .inr ⟨decide_eq_false t1, t2, by rw [HZ.out]; exact decide_eq_false t3, by rw [← HX.out, HQ.out]; omega, by rw [← HX.out, HSS.out]; exact t2, by rw [← HX.out]; exact t3⟩
                    · exact .inl (.inr (.inl ⟨decide_eq_false t1, ⟨by simpa using t2, by simpa using t2⟩, HNOT.out fun h => by have := h.2.1; rw [← HX.out, HSS.out] at this; exact t2 this⟩))
                rcases hway with hbad | ⟨g1, g2, g3, hline⟩
                · rcases hbad with ⟨g1, hf⟩ | ⟨g1, ⟨g2a, g2b⟩, hf⟩ | ⟨g1, g2, g3, hf⟩
                  all_goals
                    have HF := Lib.hid hf
                    clear hf
                    (try subst g2)
                    go_wp2_with fail
                    refine region_after (Below.refl wr.heap.size wr) (by kernel_rfl) (by kernel_rfl) ?_
                    repeat (go_big_quiet_step (first
                      | (go_at_call 99; exact calls_after (Nat.le_refl _) (HLN.out _))
                      | (go_at_call 100; exact calls_after_same (HFD.out _))))
                    refine wpQuiet_nil ?_
                    intro _ hw'
                    obtain ⟨nq, hw''⟩ := hw'
                    subst hw''
                    clear f0 f1 f2 f3
                    go_wp2_with fail
                    go_ret
                    exact ⟨by rw [HF.out]; rfl, HBW.out.trans (nq.below.mono HBW.out.size)⟩
                · have HLO := Lib.hid hline
                  subst g2
                  clear hline
                  go_wp2_with fail
                  refine region_after (Below.refl wr.heap.size wr) (by kernel_rfl) (by kernel_rfl) ?_
                  repeat (go_big_quiet_step (first
                    | (go_at_call 99; exact calls_after (Nat.le_refl _) (HLN.out _))
                    | (go_at_call 100; exact calls_after_same (HFD.out _))))
                  refine wpQuiet_nil ?_
                  intro _ hw'
                  obtain ⟨nq, hw''⟩ := hw'
                  subst hw''
                  clear f0 f1 f2 f3
                  go_wp2_with fail
                  go_roundw
                  case rel =>
                    refine ⟨m + 1, by omega, by go_num, Lib.hid (hJ.out.trans (nq.below.mono hJ.out.size)), Lib.hid fun j hj => ?_⟩
                    rcases Nat.lt_succ_iff_lt_or_eq.1 hj with h | rfl
                    · exact hok2.out j h
                    · exact HLO.out
                  case measure => simp [intOf]; omega
              · have hok3 : setOk line L.length ways (gl L k) k := by rw [HLL.out]; exact ⟨hwy, fun j hj => hok2.out j (by omega)⟩
                have HOK3 := Lib.hid hok3
                clear hok3
                go_wp2_with fail
                go_roundw
                case rel =>
                  refine ⟨k + 1, by omega, by go_num, Lib.hid (hI.out.trans (hJ.out.mono hI.out.size)), Lib.hid fun j hj => ?_⟩
                  rcases Nat.lt_succ_iff_lt_or_eq.1 hj with h | rfl
                  · exact hok.out j h
                  · exact HOK3.out
                case measure => simp [intOf]; omega
          · have hf : decide (cacheOk line L.length ways L) = false := decide_eq_false fun h => hwy (h.2.2 k hlt).1
            have hwy2 : ways < ((gl L k).length : Int) := by omega
            have HF := Lib.hid hf
            clear hf hwy
            go_wp2_with fail
            go_ret
            exact ⟨by rw [HF.out]; rfl, HB1.out.trans (hI.out.mono HB1.out.size)⟩
        · have hf : decide (cacheOk line L.length ways L) = true := decide_eq_true ⟨HS.out, rfl, fun i hi => hok.out i (by omega)⟩
          have HF := Lib.hid hf
          clear hf
          go_wp2_with fail
          go_ret
          exact ⟨by rw [HF.out]; rfl, HB1.out.trans (hI.out.mono HB1.out.size)⟩
    · have hf : decide (cacheOk line sets ways L) = false := by simp [cacheOk, hsz]
      have hne1 : ((L.length : Int) == sets) = false := by simpa using hsz
      have hne2 : ((L.length : Int) != sets) = true := by simpa using hsz
      have HF := Lib.hid hf
      clear hf hsz
      have HX := HX0
      go_enter Tryz.func58, Tryz.ntmps58
      go_wp2_with fail
      refine (rshape_any _ _ _ _).mono ?_
      rintro e W ⟨rfl, hb⟩
      rw [HS.out]
      have d3 := boxAt (i := 3) (belowBox hb HX0.out) rfl
      have d1 := boxAt (i := 1) (belowBox hb HX0.out) rfl
      have HBW := Lib.hid (HB0.out.trans (hb.mono HB0.out.size))
      clear hb c0 c1 c2
      go_wp2_with fail
      go_ret
      exact ⟨by rw [HF.out]; rfl, HBW.out⟩
theorem rCheckCache_any (line sets ways : Int) (A : Option Addr) (c : Nat) (vs : List Value) (L : List (List Int)) (w : World) (h : RdSets w A vs L) :
    Calls Tryz.prog 14 #[.agg #[.int .i64 line, .int .i64 sets, .int .i64 ways, .slice A L.length c]] w fun e w' => e = .returned (.int .i64 (if cacheOk line sets ways L then 0 else 330)) ∧ Below w.heap.size w w' := by
  have H := Lib.hid (h.below (balloc w (.cells #[.int .i64 line, .int .i64 sets, .int .i64 ways, .slice A L.length c] 26)))
  clear h
  have hif : (if cacheOk line sets ways L then (0 : Int) else 330) = if decide (cacheOk line sets ways L) = true then 0 else 330 := by by_cases h : cacheOk line sets ways L <;> simp [h]
  rw [hif]
  clear hif
  cases hq : decide (cacheOk line sets ways L)
  all_goals
    have HQ := Lib.hid hq
    clear hq
    go_enter Tryz.func14, Tryz.ntmps14
    go_wp2_with fail
    refine (rIsCache_any _ _ _ _ _ _ _ _ H.out).mono ?_
    rintro e w' ⟨rfl, hb⟩
    rw [HQ.out]
    go_wp2
    go_ret
    exact ⟨rfl, bvia (balloc w _) hb (Nat.le_refl _)⟩
end Go.Proofs.YtdkacdfhapgboaaGreat

/- The specification's caches: a line is accessed. -/
set_option linter.unusedVariables false
set_option linter.unusedSimpArgs false
namespace Go.Proofs.YtdkacdfhapgboaaGreat
open Go.RowKit

/-- The set's new list, behind k of its places. -/
def lineT (ways : Nat) (l : List Int) (x : Int) (k : Nat) : List Int := (x :: (l.take k).erase x).take ways
theorem lineT_start (ways : Nat) (hw : 1 ≤ ways) (l : List Int) (x : Int) : lineT ways l x 0 = [x] := by
  obtain ⟨n, rfl⟩ : ∃ n, ways = n + 1 := ⟨ways - 1, by omega⟩
  simp [lineT]
theorem lineT_end (ways : Nat) (l : List Int) (x : Int) : lineT ways l x l.length = (frontL l x).take ways := by
  unfold lineT frontL
  rw [List.take_length]
theorem idx_take {l : List Int} {x : Int} {k : Nat} (hk : k < l.length) : (k : Int) = idxI l x ↔ (x ∉ l.take k ∧ gi l k = x) := by
  constructor
  · intro h
    unfold idxI at h
    by_cases hx : x ∈ l
    · rw [if_pos hx] at h
      have hi : l.idxOf x = k := by omega
      subst hi
      refine ⟨fun hm => ?_, ?_⟩
      · obtain ⟨j, hj, e⟩ := List.getElem_of_mem hm
        rw [List.length_take] at hj
        rw [List.getElem_take] at e
        have := List.not_of_lt_findIdx (p := (· == x)) (xs := l) (i := j) (by show j < l.idxOf x; omega)
        simp [e] at this
      · rw [gi_get l _ hk]
        exact List.getElem_idxOf hk
    · rw [if_neg hx] at h
      omega
  · rintro ⟨h1, h2⟩
    rw [idxI_at l x k hk (fun j hj e => h1 (by
      rw [← e, gi_get l j (by omega)]
      have : (l.take k)[j]'(by rw [List.length_take]; omega) = l[j] := List.getElem_take
      rw [← this]
      exact List.getElem_mem _)) h2]
theorem lineT_step (ways : Nat) (l : List Int) (x : Int) (k : Nat) (hk : k < l.length) :
    lineT ways l x (k + 1) = if ¬ (k : Int) = idxI l x ∧ (lineT ways l x k).length < ways then lineT ways l x k ++ [gi l k] else lineT ways l x k := by
  have hidx := idx_take (x := x) hk
  have htk : l.take (k + 1) = l.take k ++ [gi l k] := by rw [List.take_succ_eq_append_getElem hk, gi_get l k hk]
  unfold lineT
  rw [htk]
  by_cases hi : (k : Int) = idxI l x
  · obtain ⟨h1, h2⟩ := hidx.1 hi
    rw [if_neg (fun h => h.1 hi), List.erase_append_right _ h1, h2]
    simp [List.erase_of_not_mem h1]
  · have he : (l.take k ++ [gi l k]).erase x = (l.take k).erase x ++ [gi l k] := by
      by_cases hm : x ∈ l.take k
      · exact List.erase_append_left _ hm
      · rw [List.erase_append_right _ hm, List.erase_of_not_mem hm]
        congr 1
        rw [List.erase_of_not_mem]
        intro h
        exact hi (hidx.2 ⟨hm, (List.mem_singleton.1 h).symm⟩)
    rw [he]
    obtain ⟨S, hS⟩ : ∃ S, x :: (l.take k).erase x = S := ⟨_, rfl⟩
    rw [show x :: ((l.take k).erase x ++ [gi l k]) = S ++ [gi l k] by rw [← hS]; rfl, hS, List.length_take]
    by_cases hl : S.length < ways
    · rw [if_pos ⟨hi, by omega⟩, List.take_of_length_le (by simp; omega), List.take_of_length_le (by omega)]
    · rw [if_neg (fun h => by have := h.2; omega), List.take_append_of_le_length (by omega)]
theorem lineT_len (ways : Nat) (hw : 1 ≤ ways) (l : List Int) (x : Int) (k : Nat) : 1 ≤ (lineT ways l x k).length ∧ (lineT ways l x k).length ≤ ways := by
  unfold lineT
  rw [List.length_take, List.length_cons]
  omega

theorem grown_of_below {w w1 : World} (h : Below w.heap.size w w1) (row : Option Nat) : w.grownBy w1 row := ⟨h.os, h.tape, h.output, h.size, fun k hk _ => h.block k hk⟩

attribute [local irreducible] World.setCell in
set_option maxRecDepth 100000 in
set_option maxHeartbeats 2000000 in
theorem rline_any (B g c : Nat) (vs : List Value) (L : List (List Int)) (line ways : Int) (x : Int) (w : World) (h : OwnSets w B g c vs L) (hB : B ≤ w.heap.size) (hs1 : 1 ≤ L.length) (hs2 : L.length ≤ 1024) (hw : 1 ≤ ways ∧ ways ≤ 16) (hlen : ∀ i, i < L.length → (gl L i).length ≤ 1024) (hx : 0 ≤ x ∧ x < 4294967296) :
    Calls Tryz.prog 104 #[.agg #[.int .i64 line, .int .i64 (L.length : Int), .int .i64 ways, .slice (some ⟨g, 0, none⟩) L.length c], .int .u32 x] w fun e w' => e = .returned (.bool (hitL L.length L x)) ∧
      ∃ vs', OwnSets w' B g c vs' (touchL L.length ways L x) ∧ Upd (fun k => k = g) w w' ∧ (∀ k, foot g vs' L.length k → foot g vs L.length k ∨ w.heap.size ≤ k) := by
  obtain ⟨hx1, hx2⟩ := hx
  obtain ⟨hw1, hw2⟩ := hw
  obtain ⟨W0, hW0⟩ : ∃ W0, w.alloc (.cells #[.int .i64 line, .int .i64 (L.length : Int), .int .i64 ways, .slice (some ⟨g, 0, none⟩) L.length c] 26) = W0 := ⟨_, rfl⟩
  have hb0 : Below w.heap.size w W0 := by rw [← hW0]; exact balloc w _
  have hx0 : W0.heap[w.heap.size]? = some (.cells #[.int .i64 line, .int .i64 (L.length : Int), .int .i64 ways, .slice (some ⟨g, 0, none⟩) L.length c] 26 (0, 0)) := by rw [← hW0]; exact heap_alloc_new w _
  have h0 := h.upd (Upd.of_below hb0) fun k hk e => by have := (h.foot_lt k hk).2; omega
  obtain ⟨s, hs⟩ : ∃ s : Nat, s = setNo L.length x := ⟨_, rfl⟩
  have hsl : s < L.length := by
    rw [hs]; unfold setNo
    have := Int.emod_lt_of_pos x (show (0 : Int) < (L.length : Int) by omega)
    have := Int.emod_nonneg x (show (L.length : Int) ≠ 0 by omega)
    omega
  have hsm : x % (L.length : Int) = (s : Int) := by
    rw [hs]; unfold setNo
    have := Int.emod_nonneg x (show (L.length : Int) ≠ 0 by omega)
    omega
  have hxt : x.tmod (L.length : Int) = (s : Int) := by rw [Int.tmod_eq_emod_of_nonneg hx1, hsm]
  have hvl := h0.vlen
  have hcell : W0.cell? ⟨g, s, none⟩ = some (gv vs s) := by
    rw [h0.row.cellAt s (by omega), List.getElem?_eq_getElem (by omega), ← gv_get vs s (by omega)]
  obtain ⟨A, cl, hv, hrd⟩ := own_rd (h0.each s hsl)
  rw [hv] at hcell
  obtain ⟨l, hl⟩ : ∃ l, gl L s = l := ⟨_, rfl⟩
  have hll := hlen s hsl
  rw [hl] at hcell hrd hll
  have HIT := Lib.hid (show hitL L.length L x = decide (x ∈ l) by unfold hitL; rw [← hs, hl])
  have HTO := Lib.hid (show touchL L.length ways L x = L.set s ((frontL l x).take ways.toNat) by unfold touchL; rw [← hs, hl])
  have HRL := Lib.hid (show RdI W0 .u32 A l.length l from hrd)
  have H0 := Lib.hid h0
  have H := Lib.hid h
  have HX := Lib.hid hx0
  have HB0 := Lib.hid hb0
  have hls : ¬ (L.length : Int) = 0 := by omega
  have hsw : IntKind.i64.wrap (s : Int) = (s : Int) := IntWalk.i64_in _ (by omega)
  have hxw : IntKind.i64.wrap x = x := IntWalk.i64_in _ (by omega)
  have hs0 : (0 : Int) ≤ (s : Int) := by omega
  have hs3 : (s : Int) < (L.length : Int) := by omega
  have c1 := boxAt (i := 1) hx0 rfl
  have c3 := boxAt (i := 3) hx0 rfl
  obtain ⟨z, hz⟩ : ∃ z, idxI l x = z := ⟨_, rfl⟩
  have hzd : decide (0 ≤ z) = decide (x ∈ l) := by rw [← hz]; exact idxI_nonneg _ _
  have HZ := Lib.hid hz
  have HZD := Lib.hid hzd
  obtain ⟨wn, hwn⟩ : ∃ wn : Nat, ways = (wn : Int) := ⟨ways.toNat, by omega⟩
  subst hwn
  have HSL := Lib.hid hs
  clear h h0 hb0 hx0 hs hsm hv hrd hl hz hzd hlen
  go_enter Tryz.func104, Tryz.ntmps104
  go_wp2_with fail
  refine (rfind_any A l.length cl l x _ HRL.out).mono ?_
  rintro e w' ⟨rfl, rfl⟩
  rw [HZ.out]
  obtain ⟨V0, hV0⟩ : ∃ V, W0.alloc (.cells #[.int .u32 x] 27) = V := ⟨_, rfl⟩
  have HBV := Lib.hid (show Below W0.heap.size W0 V0 by rw [← hV0]; exact balloc _ _)
  have HOV := Lib.hid (show V0.ownsRow W0.heap.size 27 1 (.slice (some ⟨W0.heap.size, 0, none⟩) 1 1) (lineT wn l x 0).length (nums .u32 (lineT wn l x 0)) by
    rw [← hV0, lineT_start wn (by omega)]
    exact World.ownsRow_lit (base := W0.heap.size) (e := 27) (size := 1) W0 #[.int .u32 x] 1 (Nat.le_refl _) (by decide) rfl)
  clear c1 c3
  go_wp2_with fail
  clear hV0
  go_loopw [8, 9] (fun ov iv wr => ∃ (k : Nat) (v : Value), ov = v ∧ iv = .int .i64 k ∧ k ≤ l.length ∧ Hid (wr.ownsRow W0.heap.size 27 1 v (lineT wn l x k).length (nums .u32 (lineT wn l x k))) ∧ Hid (Below W0.heap.size W0 wr)) (fun _ iv _ => l.length - (intOf iv).toNat)
  case atStart => exact ⟨0, _, rfl, rfl, Nat.zero_le _, HOV, HBV⟩
  case round =>
    obtain ⟨k, v, rfl, rfl, hk, hO, hI⟩ := hrel
    have hlt2 := lineT_len wn (by omega) l x k
    obtain ⟨T, hT⟩ : ∃ T, lineT wn l x k = T := ⟨_, rfl⟩
    rw [hT] at hO hlt2
    obtain ⟨A2, c2, hv2, _⟩ := own_rd hO.out
    subst hv2
    have y2 := boxAt (i := 2) (belowBox hI.out HX.out) rfl
    by_cases hlt : k < l.length
    · obtain ⟨ad, hA, hc⟩ := (show RdI wr .u32 A l.length l from Rd.below HRL.out hI.out).at k hlt
      subst hA
      obtain ⟨y, hy⟩ : ∃ y, gi l k = y := ⟨_, rfl⟩
      rw [hy] at hc
      have hst := lineT_step wn l x k hlt
      rw [HZ.out, hy] at hst
      rw [hT] at hst
      have HST := Lib.hid hst
      clear hst hT hy
      by_cases hkz : (k : Int) = z
      · rw [if_neg (fun h => h.1 hkz)] at HST
        have hz1 : ((k : Int) == z) = true := by simpa using hkz
        have hz2 : ((k : Int) != z) = false := by simpa using hkz
        clear hkz
        go_wp2_with fail
        go_roundw
        case rel => exact ⟨k + 1, _, rfl, by go_num, by omega, by rw [HST.out]; exact hO, hI⟩
        case measure => simp [intOf]; omega
      · have hz1 : ((k : Int) == z) = false := by simpa using hkz
        have hz2 : ((k : Int) != z) = true := by simpa using hkz
        by_cases hlw : (T.length : Int) < (wn : Int)
        · rw [if_pos ⟨hkz, by omega⟩] at HST
          obtain ⟨i0, hi0, q0, q1, q2⟩ := info_parts info_u32
          obtain ⟨W1, hW1⟩ : ∃ W, wr.alloc (.cells #[.int .u32 y] 27) = W := ⟨_, rfl⟩
          have hb1 : Below wr.heap.size wr W1 := by rw [← hW1]; exact balloc _ _
          have ho1 : W1.ownsRow W0.heap.size 27 1 (.slice A2 T.length c2) T.length (nums .u32 T) := by rw [← hW1]; exact hO.out.alloc _
          have hr1 : Rd W1 (some ⟨wr.heap.size, 0, none⟩) 1 1 (nums .u32 [y]) := by rw [← hW1]; exact rd_one wr y
          obtain ⟨v2, W2, run2, ho2, hg2⟩ := app_any (P := Tryz.prog) (t := 28) (ty := 28) (c := 1) Tryz.underlying28 hi0 q0 q1 q2 rfl ho1 hr1 (numsR_one _ _) (by unfold maxLen; omega) (by omega) (by have := hI.out.size; have := hb1.size; omega)
          rw [← nums_append] at ho2
          have hI2 := (hI.out.trans (hb1.mono hI.out.size)).trans ((Upd.of_grown hg2).below (by have := hI.out.size; have := hb1.size; omega) fun j hj => (ho1.lt j hj).1)
          have HI2 := Lib.hid hI2
          have HO2 := Lib.hid (show W2.ownsRow W0.heap.size 27 1 v2 (lineT wn l x (k + 1)).length (nums .u32 (lineT wn l x (k + 1))) by rw [HST.out, List.length_append, List.length_singleton]; exact ho2)
          have e1 := bkeep hb1 hc
          clear hb1 ho1 hr1 ho2 hg2 hI2 hi0 q0 q1 q2 hkz
          go_wp2_with (at_builtin; refine Lib.wpList_append_run _ rfl (.tmp 43) (.tmp 48) _ _ rfl _ _ rfl rfl _ _ run2 ?_)
          go_roundw
          case rel => exact ⟨k + 1, _, rfl, by go_num, by omega, HO2, HI2⟩
          case measure => simp [intOf]; omega
        · rw [if_neg (fun h => hlw (by have := h.2; omega))] at HST
          clear hkz
          go_wp2_with fail
          go_roundw
          case rel => exact ⟨k + 1, _, rfl, by go_num, by omega, by rw [HST.out]; exact hO, hI⟩
          case measure => simp [intOf]; omega
    · obtain rfl : k = l.length := by omega
      have hend := lineT_end wn l x
      rw [hT] at hend
      obtain ⟨g1, c1, hv⟩ := own_slice hO.out hlt2.1
      cases hv
      have hwr : Below w.heap.size w wr := HB0.out.trans (hI.out.mono HB0.out.size)
      have hWs : W0.heap.size ≤ wr.heap.size := hI.out.size
      have hg0 := (hO.out.lt g1 rfl)
      have hst := sets_step (m := T.length) H.out hsl (own_base' hO.out fun j hj => by have := (hO.out.lt j hj).1; have := HB0.out.size; omega) (grown_of_below hwr _) (.inr (by have := HB0.out.size; omega)) (Upd.refl (fun _ => False) wr) (fun _ _ h => h) (fun h => h) (Nat.le_refl _)
      rw [List.take_length] at hst
      have y1 := boxAt (i := 3) (belowBox hI.out HX.out) rfl
      have hrow := (H0.out.upd (Upd.of_below hI.out) fun j hj e => by have := (H0.out.foot_lt j hj).2; omega).row
      have hcg : wr.cell? ⟨g, s, none⟩ = some (gv vs s) := by
        rw [hrow.cellAt s (by omega), List.getElem?_eq_getElem (by omega), ← gv_get vs s (by omega)]
      have hfg := hrow.frozenAt s
      have HST := Lib.hid hst
      have HWR := Lib.hid hwr
      have HTE := Lib.hid hend
      have hzc : (0 ≤ z ∧ hitL L.length L x = true) ∨ (¬ 0 ≤ z ∧ hitL L.length L x = false) := by
        rw [HIT.out, ← HZD.out]
        by_cases h : 0 ≤ z
        · exact .inl ⟨h, decide_eq_true h⟩
        · exact .inr ⟨h, decide_eq_false h⟩
      clear hst hwr hT hend hrow
      rcases hzc with ⟨hz0, hh⟩ | ⟨hz0, hh⟩
      all_goals
        have HHH := Lib.hid hh
        clear hh
        go_wp2_with fail
        go_ret
        refine ⟨by rw [HHH.out]; rfl, ?v, ?_, ?_, ?_⟩
        case v => exact vs.set s (.slice (some ⟨g1, 0, none⟩) T.length c2)
        · rw [HTO.out, show ((wn : Int)).toNat = wn from rfl, ← HTE.out]
          exact HST.out.1
        · exact ((Upd.of_below HWR.out).mono (G := fun k => k = g ∨ w.heap.size ≤ k) fun k h => .inr h).trans ((Upd.setCell wr ⟨g, s, none⟩ _).mono (G := fun k => k = g ∨ w.heap.size ≤ k) fun k (h : k = g) => .inl h) (fun k h => .inl h) |> fun hh => ⟨hh.os, hh.tape, hh.output, hh.size, fun k hk hn => hh.block k hk fun h => hn (by rcases h with h | h; exact h; omega)⟩
        · intro k hk
          rcases HST.out.2 k hk with h | h
          · exact .inl h
          · exact .inr (by have := HB0.out.size; omega)
end Go.Proofs.YtdkacdfhapgboaaGreat

/- The specification's caches: many lines are accessed. -/
set_option linter.unusedVariables false
set_option linter.unusedSimpArgs false
namespace Go.Proofs.YtdkacdfhapgboaaGreat
open Go.RowKit

theorem many_eq (line at_ cnt : Int) (h1 : 1 ≤ line) (ha : 0 ≤ at_) (hc : 1 ≤ cnt) : (at_ % line + cnt + line - 1) / line = (nLines line at_ cnt : Int) := by
  have hr := Int.emod_nonneg at_ (show line ≠ 0 by omega)
  have e : at_ = line * (at_ / line) + at_ % line := (Int.mul_ediv_add_emod at_ line).symm
  have e1 : (at_ + cnt - 1) / line = at_ / line + (at_ % line + cnt - 1) / line := by
    rw [show at_ + cnt - 1 = (at_ % line + cnt - 1) + line * (at_ / line) by omega, Int.add_mul_ediv_left _ _ (by omega)]
    omega
  have e2 : (at_ % line + cnt + line - 1) / line = (at_ % line + cnt - 1) / line + 1 := by
    rw [show at_ % line + cnt + line - 1 = (at_ % line + cnt - 1) + line * 1 by omega, Int.add_mul_ediv_left _ _ (by omega)]
  have h0 : 0 ≤ (at_ % line + cnt - 1) / line := Int.ediv_nonneg (by omega) (by omega)
  unfold nLines
  rw [e1, e2]
  omega
theorem linI_take (line at_ cnt : Int) (k : Nat) (hk : k < nLines line at_ cnt) : (linI line at_ cnt).take (k + 1) = (linI line at_ cnt).take k ++ [lineNo line at_ k] := by
  have hl : k < (linI line at_ cnt).length := by simp [linI, hk]
  rw [List.take_succ_eq_append_getElem hl]
  simp [linI]
theorem linI_all (line at_ cnt : Int) : (linI line at_ cnt).take (nLines line at_ cnt) = linI line at_ cnt := List.take_of_length_le (by simp [linI])

/-- What access has done behind some lines. -/
structure RAcc (W0 : World) (B g c : Nat) (vs : List Value) (L : List (List Int)) (n : Nat) (ways : Int) (pre : List Int) (vs' : List Value) (v : Value) (W : World) : Prop where
  sets : OwnSets W B g c vs' (runL n ways L pre).1
  out : W.ownsRow W0.heap.size 27 1 v (runL n ways L pre).2.length (nums .u32 (runL n ways L pre).2)
  apart : ∀ k, v.ownBlock = some k → ¬ foot g vs' n k
  fresh : ∀ k, foot g vs' n k → foot g vs n k ∨ W0.heap.size ≤ k
  upd : Upd (foot g vs n) W0 W
theorem RAcc.keep {W0 W W1 : World} {B g c : Nat} {vs : List Value} {L : List (List Int)} {n : Nat} {ways : Int} {pre : List Int} {vs' : List Value} {v : Value} (h : RAcc W0 B g c vs L n ways pre vs' v W) (hn : L.length = n) (hb : Below W.heap.size W W1) : RAcc W0 B g c vs L n ways pre vs' v W1 := by
  have hl := runL_length (n : Int) ways pre L
  refine ⟨h.sets.upd (Upd.of_below hb) fun k hk e => by have := (h.sets.foot_lt k hk).2; omega, own_upd h.out (Upd.of_below hb) fun k hk e => by have := (h.out.lt k hk).2; omega, h.apart, h.fresh, ?_⟩
  have hu := h.upd.size
  exact ⟨hb.os.trans h.upd.os, hb.tape.trans h.upd.tape, hb.output.trans h.upd.output, by have := hb.size; omega, fun k hk hf => (hb.block k (by omega)).trans (h.upd.block k hk hf)⟩
theorem RAcc.hit {W0 W W1 : World} {B g c : Nat} {vs : List Value} {L : List (List Int)} {n : Nat} {ways : Int} {pre : List Int} {vs' vs2 : List Value} {v : Value} {x : Int} (h : RAcc W0 B g c vs L n ways pre vs' v W) (hn : L.length = n)
    (hs : OwnSets W1 B g c vs2 (touchL n ways (runL n ways L pre).1 x)) (hu : Upd (fun k => k = g) W W1) (hf : ∀ k, foot g vs2 n k → foot g vs' n k ∨ W.heap.size ≤ k) :
    OwnSets W1 B g c vs2 (runL n ways L (pre ++ [x])).1 ∧ W1.ownsRow W0.heap.size 27 1 v (runL n ways L pre).2.length (nums .u32 (runL n ways L pre).2) ∧ (∀ k, v.ownBlock = some k → ¬ foot g vs2 n k) ∧ (∀ k, foot g vs2 n k → foot g vs n k ∨ W0.heap.size ≤ k) ∧ Upd (foot g vs n) W0 W1 := by
  refine ⟨by rw [runL_snoc]; exact hs, own_upd h.out hu fun k hk e => h.apart k hk (.inl e), fun k hk h2 => ?_, fun k hk => ?_, ?_⟩
  · rcases hf k h2 with h3 | h3
    · exact h.apart k hk h3
    · have := (h.out.lt k hk).2; omega
  · rcases hf k hk with h3 | h3
    · exact h.fresh k h3
    · have := h.upd.size; exact .inr (by omega)
  · have hsz := h.upd.size
    exact ⟨hu.os.trans h.upd.os, hu.tape.trans h.upd.tape, hu.output.trans h.upd.output, by have := hu.size; omega, fun k hk hf => (hu.block k (by omega) fun e => hf (.inl e)).trans (h.upd.block k hk hf)⟩

/-- An append onto an own row, with the place of what comes out. -/
theorem app_at {P : Program} {W : World} {base : Nat} {t ty e : TypeId} {i : TypeInfo} {z : Value} {bytes : Nat} (ht : P.underlying t = some (.slice e)) (hi : P.info? e = some i) (hz : i.zero = some z) (hsize : i.size = 1) (hby : i.bytes = bytes) (hzs : z.cells.size = 1)
    {v : Value} {n : Nat} {xs : List Value} (hown : W.ownsRow base e 1 v n xs) {A : Option Addr} {m c : Nat} {news : List Value} (hr : Rd W A m 1 news) (h1 : ∀ u ∈ news, u.oneCell' = true)
    (h63 : n + m ≤ maxLen) (hbytes : (n + m) * bytes ≤ 140737488355328) (hbase : base ≤ W.heap.size) :
    ∃ v' W', (Builtin.append_ #[t, t] ty #[v, .slice A m c]).run P W = .ok v' W' ∧ W'.ownsRow base e 1 v' (n + m) (xs ++ news) ∧ W.grownBy W' v.ownBlock ∧ (v'.ownBlock = v.ownBlock ∨ v'.ownBlock = some W.heap.size) := by
  have hl := hr.len
  cases A with
  | none =>
    have hn : news = [] := by
      rcases news with _ | ⟨u, us⟩
      · rfl
      · obtain ⟨ad, e, _⟩ := hr.cell 0 (by simp)
        exact absurd e (by simp)
    subst hn
    obtain rfl : m = 0 := by simpa using hl.symm
    refine ⟨v, W, ?_, by simpa using hown, World.grownBy.refl W _, .inl rfl⟩
    rcases hown.2 with ⟨rfl, rfl⟩ | ⟨g, cap, cur, rfl, _, _, hnc, _⟩
    · simp [Builtin.append_, run_underlying ht, sizeOf, typeInfo, hi, Builtin.lenOf, Builtin.firstCells]
    · simp [Builtin.append_, run_underlying ht, sizeOf, typeInfo, hi, Builtin.lenOf, Builtin.firstCells, hnc, storeCells]
  | some ad =>
    obtain ⟨v', W', hrun, h2, h3, _, h4⟩ := run_append_own_at (P := P) W base t ty e i z 1 bytes ht hi hz hsize hby hzs (by omega) v n xs hown ad m c news hl (fun j u hu => by
      obtain ⟨hj, rfl⟩ := List.getElem?_eq_some_iff.1 hu
      obtain ⟨ad', e', hc⟩ := hr.cell j hj
      obtain rfl := Option.some.inj e'
      exact hc) h1 h63 hbytes hbase
    exact ⟨v', W', hrun, h2, h3, h4⟩

theorem RAcc.miss {W0 W V W2 : World} {B g c : Nat} {vs : List Value} {L : List (List Int)} {n : Nat} {ways : Int} {pre : List Int} {vs2 : List Value} {v v2 : Value} {x : Int} {o : Obj} (hn : L.length = n)
    (hs : OwnSets W B g c vs2 (runL n ways L (pre ++ [x])).1) (ho : W.ownsRow W0.heap.size 27 1 v (runL n ways L pre).2.length (nums .u32 (runL n ways L pre).2)) (ha : ∀ k, v.ownBlock = some k → ¬ foot g vs2 n k) (hf : ∀ k, foot g vs2 n k → foot g vs n k ∨ W0.heap.size ≤ k) (hu : Upd (foot g vs n) W0 W)
    (hV : W.alloc o = V) (ho2 : W2.ownsRow W0.heap.size 27 1 v2 ((runL n ways L pre).2.length + 1) (nums .u32 (runL n ways L pre).2 ++ nums .u32 [x])) (hg2 : V.grownBy W2 v.ownBlock) (hat : v2.ownBlock = v.ownBlock ∨ v2.ownBlock = some V.heap.size)
    (hm : hitL n (runL n ways L pre).1 x = false) : RAcc W0 B g c vs L n ways (pre ++ [x]) vs2 v2 W2 := by
  have hl := runL_length (n : Int) ways (pre ++ [x]) L
  have hb : Below W.heap.size W V := by rw [← hV]; exact balloc _ _
  have hsz := hb.size
  have hlt : ∀ k, foot g vs2 n k → k < W.heap.size := fun k hk => (hs.foot_lt k (by rw [hl, hn]; exact hk)).2
  refine ⟨(hs.upd (Upd.of_below hb) fun k hk e => by have := (hs.foot_lt k hk).2; omega).upd (Upd.of_grown hg2) fun k hk e => ha k e (by rw [hl, hn] at hk; exact hk), ?_, fun k hk h2 => ?_, hf, ?_⟩
  · rw [runL_snoc, hm]
    simp only [missL, List.length_append, List.length_singleton, nums_append]
    exact ho2
  · rcases hat with e | e
    · exact ha k (e ▸ hk) h2
    · rw [e] at hk
      have := hlt k h2
      cases hk
      omega
  · have h1 := hu.size
    have h3 := hg2.size
    refine ⟨(hg2.os.trans hb.os).trans hu.os, (hg2.tape.trans hb.tape).trans hu.tape, (hg2.output.trans hb.output).trans hu.output, by omega, fun k hk hnf => ?_⟩
    rw [hg2.block k (by omega) fun e => by
      have := (ho.lt k e.symm).1
      omega, hb.block k (by omega)]
    exact hu.block k hk hnf

set_option maxRecDepth 100000 in
set_option maxHeartbeats 2000000 in
theorem raccess_any (B g c n : Nat) (vs : List Value) (L : List (List Int)) (line ways : Int) (at_ cnt : Int) (w : World) (h : OwnSets w B g c vs L) (hn : L.length = n) (hB : B ≤ w.heap.size) (hs : shapeB line n ways = true) (hsm : Small ways L) (ha : 0 ≤ at_ ∧ at_ < 4294967296) (hc : 1 ≤ cnt ∧ cnt ≤ 65536) :
    Calls Tryz.prog 62 #[.agg #[.int .i64 line, .int .i64 (n : Int), .int .i64 ways, .slice (some ⟨g, 0, none⟩) n c], .int .u32 at_, .int .i64 cnt] w fun e w' => ∃ vs' v, e = .returned v ∧
      OwnSets w' B g c vs' (runL n ways L (linI line at_ cnt)).1 ∧ w'.ownsRow w.heap.size 27 1 v (runL n ways L (linI line at_ cnt)).2.length (nums .u32 (runL n ways L (linI line at_ cnt)).2) ∧
      (∀ k, v.ownBlock = some k → ¬ foot g vs' n k) ∧ (∀ k, foot g vs' n k → foot g vs n k ∨ w.heap.size ≤ k) ∧ Upd (foot g vs n) w w' := by
  obtain ⟨l1, l2, l3, l4, l5, l6⟩ := shapeB_line hs
  obtain ⟨a1, a2⟩ := ha
  obtain ⟨k1, k2⟩ := hc
  obtain ⟨W0, hW0⟩ : ∃ W0, w.alloc (.cells #[.int .i64 line, .int .i64 (n : Int), .int .i64 ways, .slice (some ⟨g, 0, none⟩) n c] 26) = W0 := ⟨_, rfl⟩
  have hb0 : Below w.heap.size w W0 := by rw [← hW0]; exact balloc w _
  have hx0 : W0.heap[w.heap.size]? = some (.cells #[.int .i64 line, .int .i64 (n : Int), .int .i64 ways, .slice (some ⟨g, 0, none⟩) n c] 26 (0, 0)) := by rw [← hW0]; exact heap_alloc_new w _
  have h0 := h.upd (Upd.of_below hb0) fun k hk e => by have := (h.foot_lt k hk).2; omega
  have hW0n : ¬ foot g vs n w.heap.size := fun e => by rw [← hn] at e; have := (h.foot_lt _ e).2; omega
  have H0 := Lib.hid (show RAcc W0 B g c vs L n ways [] vs (.slice none 0 0) W0 from ⟨h0, World.ownsRow_nil _ _ _ _, fun k hk => by simp [Value.ownBlock] at hk, fun k hk => .inl hk, Upd.refl _ _⟩)
  have HX := Lib.hid hx0
  have HB0 := Lib.hid hb0
  have HF := Lib.hid (show ∀ k, foot g vs n k → k < w.heap.size by rw [← hn]; exact fun k hk => (h.foot_lt k hk).2)
  have HN := Lib.hid hn
  obtain ⟨c0, c1, c2, c3, _⟩ := box4 hx0
  obtain ⟨r, hr⟩ : ∃ r, at_ % line = r := ⟨_, rfl⟩
  obtain ⟨q, hq⟩ : ∃ q, at_ / line = q := ⟨_, rfl⟩
  obtain ⟨m, hm⟩ : ∃ m, nLines line at_ cnt = m := ⟨_, rfl⟩
  obtain ⟨M, hM⟩ : ∃ M, 4294967296 / line = M := ⟨_, rfl⟩
  have hr0 : 0 ≤ r := by rw [← hr]; exact Int.emod_nonneg _ (by omega)
  have hr1 : r < line := by rw [← hr]; exact Int.emod_lt_of_pos _ (by omega)
  have hq0 : 0 ≤ q := by rw [← hq]; exact Int.ediv_nonneg (by omega) (by omega)
  have hq1 : q < 4294967296 := by rw [← hq]; have := Int.ediv_le_self (b := line) a1; omega
  have hM0 : 1 ≤ M := by rw [← hM, Int.le_ediv_iff_mul_le (by omega)]; omega
  have hM1 : M ≤ 4294967296 := by rw [← hM]; exact Int.ediv_le_self _ (by omega)
  have hm1 : m ≤ 65538 := by rw [← hm]; exact nLines_le line at_ cnt l1 a1 ⟨k1, k2⟩
  have f1 : at_.tmod line = r := by rw [Int.tmod_eq_emod_of_nonneg a1, hr]
  have f2 : at_.tdiv line = q := by rw [Int.tdiv_eq_ediv_of_nonneg a1, hq]
  have f3 : (r + cnt + line - 1).tdiv line = (m : Int) := by
    rw [Int.tdiv_eq_ediv_of_nonneg (by omega), ← hr, many_eq line at_ cnt (by omega) a1 k1, hm]
  have f4 : ¬ line = 0 := by omega
  have f5 : IntKind.u32.wrap line = line := by rw [IntKind.wrap_u32]; omega
  have f6 : IntKind.i64.wrap r = r := IntWalk.i64_in _ (by omega)
  have f7 : IntKind.i64.wrap (r + cnt) = r + cnt := IntWalk.i64_in _ (by omega)
  have f8 : IntKind.i64.wrap (r + cnt + line) = r + cnt + line := IntWalk.i64_in _ (by omega)
  have f9 : IntKind.i64.wrap (r + cnt + line - 1) = r + cnt + line - 1 := IntWalk.i64_in _ (by omega)
  have f10 : IntKind.i64.wrap (m : Int) = (m : Int) := IntWalk.i64_in _ (by omega)
  have f11 : IntKind.u32.wrap r = r := by rw [IntKind.wrap_u32]; omega
  have HQ := Lib.hid (show ∀ k : Nat, lineNo line at_ k = (q + k) % M from fun k => by unfold lineNo; rw [hq, hM])
  have HM := Lib.hid hm
  have HMM := Lib.hid hM
  clear h h0 hx0 hb0 hW0n hr hq hm hM
  go_enter Tryz.func62, Tryz.ntmps62
  go_wp2_with fail
  go_quiet (fail)
  go_wp2_with fail
  have H1 := Lib.hid (H0.out.keep HN.out (show Below W0.heap.size W0 (W0.drewN nq) from bdrewN (Below.refl _ _) nq))
  clear f1 f6 f7 f8 f9 f11 c0 c1 c2 c3
  generalize W0.drewN nq = W1 at *
  go_loopw [7, 10] (fun ov iv wr => ∃ (k : Nat) (v : Value) (vs' : List Value), ov = v ∧ iv = .int .i64 k ∧ k ≤ m ∧ Hid (RAcc W0 B g c vs L n ways ((linI line at_ cnt).take k) vs' v wr)) (fun _ iv _ => m - (intOf iv).toNat)
  case atStart => exact ⟨0, _, vs, rfl, rfl, Nat.zero_le _, H1⟩
  case round =>
    obtain ⟨k, v, vs', hov, rfl, hk, hI⟩ := hrel
    subst hov
    have hxr : wr.heap[w.heap.size]? = some (.cells #[.int .i64 line, .int .i64 (n : Int), .int .i64 ways, .slice (some ⟨g, 0, none⟩) n c] 26 (0, 0)) := by
      rw [hI.out.upd.block _ (Array.getElem?_eq_some_iff.1 HX.out).1 fun e => by have := HF.out _ e; omega]
      exact HX.out
    by_cases hlt : k < m
    · have htk := linI_take line at_ cnt k (by rw [HM.out]; exact hlt)
      obtain ⟨pre, hpre⟩ : ∃ pre, (linI line at_ cnt).take k = pre := ⟨_, rfl⟩
      have hxq := HQ.out k
      obtain ⟨x, hx⟩ : ∃ x, lineNo line at_ k = x := ⟨_, rfl⟩
      rw [hpre, hx] at htk
      rw [hpre] at hI
      rw [hx] at hxq
      have hpl : pre.length ≤ k := by rw [← hpre, List.length_take]; omega
      have hol : (runL (n : Int) ways L pre).2.length ≤ k := by have := runL_out_le (n : Int) ways pre L; omega
      have hout := hI.out.out
      obtain ⟨O, hO⟩ : ∃ O, (runL (n : Int) ways L pre).2 = O := ⟨_, rfl⟩
      rw [hO] at hout hol
      obtain ⟨A2, c2', hv2, _⟩ := own_rd hout
      subst hv2
      have hx0 : 0 ≤ x := by rw [hxq]; exact Int.emod_nonneg _ (by omega)
      have hx1 : x < M := by rw [hxq]; exact Int.emod_lt_of_pos _ (by omega)
      have e1 : IntKind.u64.wrap q = q := IntWalk.u64_in _ (by omega)
      have e2 : IntKind.u64.wrap (k : Int) = (k : Int) := IntWalk.u64_in _ (by omega)
      have e3 : IntKind.u64.wrap (q + (k : Int)) = q + (k : Int) := IntWalk.u64_in _ (by omega)
      have e4 : (q + (k : Int)).tmod M = x := by rw [Int.tmod_eq_emod_of_nonneg (by omega), hxq]
      have e5 : IntKind.u32.wrap x = x := by rw [IntKind.wrap_u32]; omega
      have e6 : ¬ M = 0 := by omega
      have hlen := runL_length (n : Int) ways pre L
      rw [HN.out] at hlen
      have hlinesQ : ∀ q' : After wr.heap.size wr, Calls Tryz.prog 99 #[.agg #[.int .i64 line, .int .i64 (n : Int), .int .i64 ways]] q'.W fun e w' => e = .returned (.int .u64 M) ∧ Below q'.W.heap.size q'.W w' := fun q' => by
        have := rlines_any line n ways ⟨by omega, by omega⟩ q'.W
        rw [HMM.out] at this
        exact this
      have hI2 : ∀ q' : After wr.heap.size wr, RAcc W0 B g c vs L n ways pre vs' (.slice A2 O.length c2') q'.W := fun q' => hI.out.keep HN.out q'.below
      have hline : ∀ q' : After wr.heap.size wr, Calls Tryz.prog 104 #[.agg #[.int .i64 line, .int .i64 (n : Int), .int .i64 ways, .slice (some ⟨g, 0, none⟩) n c], .int .u32 x] q'.W fun e w' => e = .returned (.bool (hitL n (runL n ways L pre).1 x)) ∧
          ∃ vs2, OwnSets w' B g c vs2 (touchL n ways (runL n ways L pre).1 x) ∧ Upd (fun k => k = g) q'.W w' ∧ (∀ k, foot g vs2 n k → foot g vs' n k ∨ q'.W.heap.size ≤ k) := fun q' => by
        have hsm2 := runL_small (sets := (n : Int)) pre hsm
        have := rline_any B g c vs' (runL n ways L pre).1 line ways x q'.W (hI2 q').sets (by have := q'.below.size; have := hI.out.upd.size; have := HB0.out.size; omega) (by rw [hlen]; omega) (by rw [hlen]; omega) ⟨l5, l6⟩ (fun i hi => by have := hsm2 i hi; omega) ⟨hx0, by omega⟩
        rw [hlen] at this
        exact this
      have hbx : ∀ q' : After wr.heap.size wr, q'.W.heap[w.heap.size]? = some (.cells #[.int .i64 line, .int .i64 (n : Int), .int .i64 ways, .slice (some ⟨g, 0, none⟩) n c] 26 (0, 0)) := fun q' => belowBox q'.below hxr
      obtain ⟨c0, c1, c2, c3, _⟩ := box4 hxr
      have HT := Lib.hid htk
      have HLQ := Lib.hid hlinesQ
      have HI2 := Lib.hid hI2
      have HLN := Lib.hid hline
      have HBX := Lib.hid hbx
      have HOO := Lib.hid hO
      clear htk hlinesQ hI2 hline hbx hxr hpre hxq hx hlen hO hout hpl
      go_wp2_with fail
      have y0 := After.cell c0
      have y1 := After.cell c1
      have y2 := After.cell c2
      refine region_after (Below.refl wr.heap.size wr) (by kernel_rfl) (by kernel_rfl) ?_
      repeat (go_big_quiet_step (first
        | (go_at_call 99; exact calls_after (Nat.le_refl _) (HLQ.out _))))
      refine wpQuiet_nil ?_
      intro _ hw'
      obtain ⟨nq, hw''⟩ := hw'
      subst hw''
      clear y0 y1 y2 c0 c1 c2 c3
      obtain ⟨c0, c1, c2, c3, _⟩ := box4 (HBX.out nq)
      go_wp2_with fail
      refine (HLN.out nq).mono ?_
      rintro e w1 ⟨rfl, vs2, hs2, hu2, hf2⟩
      obtain ⟨p1, p2, p3, p4, p5⟩ := (HI2.out nq).hit HN.out hs2 hu2 hf2
      rw [HOO.out] at p2
      cases hh : hitL n (runL n ways L pre).1 x
      · have HH := Lib.hid hh
        obtain ⟨V1, hV1⟩ : ∃ V, w1.alloc (.cells #[.int .u32 x] 27) = V := ⟨_, rfl⟩
        have hv1 : Below w1.heap.size w1 V1 := by rw [← hV1]; exact balloc _ _
        have ho1 : V1.ownsRow W0.heap.size 27 1 (.slice A2 O.length c2') O.length (nums .u32 O) := own_upd p2 (Upd.of_below hv1) fun k hk e => by have := (p2.lt k hk).2; omega
        have hr1 : Rd V1 (some ⟨w1.heap.size, 0, none⟩) 1 1 (nums .u32 [x]) := by rw [← hV1]; exact rd_one w1 x
        obtain ⟨i0, hi0, q0, q1, q2⟩ := info_parts info_u32
        obtain ⟨v3, W3, run3, ho3, hg3, hat3⟩ := app_at (P := Tryz.prog) (t := 28) (ty := 28) (c := 1) Tryz.underlying28 hi0 q0 q1 q2 rfl ho1 hr1 (numsR_one _ _) (by unfold maxLen; omega) (by omega) (by have := p5.size; have := hv1.size; omega)
        have hfin := RAcc.miss (W2 := W3) (v2 := v3) HN.out p1 (by rw [HOO.out]; exact p2) p3 p4 p5 hV1 (by rw [HOO.out]; exact ho3) hg3 hat3 HH.out
        rw [← HT.out] at hfin
        have HFIN := Lib.hid hfin
        clear p1 p2 p3 p4 p5 ho1 hr1 hv1 ho3 hg3 hat3 hfin hi0 q0 q1 q2 hs2 hu2 hf2
        go_wp2_with (at_builtin; refine Lib.wpList_append_run _ rfl (.tmp 54) (.tmp 56) _ _ rfl _ _ rfl rfl _ _ run3 ?_)
        go_roundw
        case rel => exact ⟨k + 1, _, _, rfl, by go_num, by omega, HFIN⟩
        case measure => simp [intOf]; omega
      · have hfin : RAcc W0 B g c vs L n ways (pre ++ [x]) vs2 (.slice A2 O.length c2') w1 := ⟨p1, by rw [runL_snoc, hh]; simp only [missL, List.append_nil]; rw [HOO.out]; exact p2, p3, p4, p5⟩
        rw [← HT.out] at hfin
        have HFIN := Lib.hid hfin
        clear p1 p2 p3 p4 p5 hfin hs2 hu2 hf2 hh
        go_wp2_with fail
        go_roundw
        case rel => exact ⟨k + 1, _, _, rfl, by go_num, by omega, HFIN⟩
        case measure => simp [intOf]; omega
    · obtain rfl : k = m := by omega
      have HE := Lib.hid (show (linI line at_ cnt).take k = linI line at_ cnt by rw [← HM.out]; exact linI_all _ _ _)
      clear hxr
      go_wp2_with fail
      go_ret
      have hE := HE.out
      have hi := hI.out
      rw [hE] at hi
      have hsz := HB0.out.size
      refine ⟨vs', _, rfl, hi.sets, own_base' hi.out fun j hj => by have := (hi.out.lt j hj).1; omega, hi.apart, fun j hj => ?_, ?_⟩
      · rcases hi.fresh j hj with h | h
        · exact .inl h
        · exact .inr (by omega)
      · exact ⟨hi.upd.os.trans HB0.out.os, hi.upd.tape.trans HB0.out.tape, hi.upd.output.trans HB0.out.output, by have := hi.upd.size; omega, fun j hj hf => (hi.upd.block j (by omega) hf).trans (HB0.out.block j hj)⟩
end Go.Proofs.YtdkacdfhapgboaaGreat

/- The specification's caches: NewCache. -/
set_option linter.unusedVariables false
set_option linter.unusedSimpArgs false
namespace Go.Proofs.YtdkacdfhapgboaaGreat
open Go.RowKit

set_option maxRecDepth 100000 in
set_option maxHeartbeats 1000000 in
theorem rnewCache_bad (line sets ways : Int) (hs : shapeB line sets ways = false) (w : World) :
    Calls Tryz.prog 9 #[.agg #[.int .i64 line, .int .i64 sets, .int .i64 ways]] w fun e w' => Below w.heap.size w w' ∧ e = .returned (.tuple #[.agg #[.int .i64 0, .int .i64 0, .int .i64 0, .slice none 0 0], .int .i64 330]) := by
  go_enter Tryz.func9, Tryz.ntmps9
  go_wp2_with fail
  refine (rshape_any _ _ _ _).mono ?_
  rintro e W ⟨rfl, hb⟩
  rw [hs]
  have hb2 : Below w.heap.size w W := ((((Below.refl _ _).alloc (Nat.le_refl _) _).alloc (by simp) _)).trans (hb.mono (by simp <;> omega))
  have hbox : W.heap[w.heap.size + 1]? = some (.cells #[.int .i64 0, .int .i64 0, .int .i64 0, .slice none 0 0] 26 (0, 0)) := by
    rw [hb.block _ (by simp)]
    have := heap_alloc_new (w.alloc (.cells #[.int .i64 line, .int .i64 sets, .int .i64 ways] 23)) (.cells #[.int .i64 0, .int .i64 0, .int .i64 0, .slice none 0 0] 26)
    simpa using this
  have HB := Lib.hid hbox
  have c0 : W.cell? ⟨w.heap.size + 1, 0, none⟩ = some (.int .i64 0) := by simp [World.cell?, hbox]
  have c1 : W.cell? ⟨w.heap.size + 1, 1, none⟩ = some (.int .i64 0) := by simp [World.cell?, hbox]
  have c2 : W.cell? ⟨w.heap.size + 1, 2, none⟩ = some (.int .i64 0) := by simp [World.cell?, hbox]
  have c3 : W.cell? ⟨w.heap.size + 1, 3, none⟩ = some (.slice none 0 0) := by simp [World.cell?, hbox]
  have d0 : ∀ o, W.frozen? ⟨w.heap.size + 1, o, none⟩ = false := fun o => by simp [World.frozen?, hbox]
  clear hbox hb
  go_wp2
  (try simp only [Exit.inBlock, Exit.then])
  refine bodyPost_ret (v := .tuple #[.agg #[.int .i64 0, .int .i64 0, .int .i64 0, .slice none 0 0], .int .i64 330]) (results_cell2 rfl rfl rfl (run_loadVar_row (P := Tryz.prog) _ _ 26 26 _ (0, 0) _ (set4_heap HB.out _ _ _ _) Tryz.underlying26 rfl (by kernel_rfl))) rfl ?_
  exact ⟨bset4 hb2 (by omega) _ _ _ _, rfl⟩

set_option maxRecDepth 100000 in
set_option maxHeartbeats 1000000 in
theorem rnewCache_ok (line ways : Int) (n : Nat) (hs : shapeB line n ways = true) (w : World) :
    Calls Tryz.prog 9 #[.agg #[.int .i64 line, .int .i64 (n : Int), .int .i64 ways]] w fun e w' => Below w.heap.size w w' ∧
      ∃ g, e = .returned (.tuple #[.agg #[.int .i64 line, .int .i64 (n : Int), .int .i64 ways, .slice (some ⟨g, 0, none⟩) n n], .int .i64 0]) ∧ OwnSets w' w.heap.size g n (List.replicate n (.slice none 0 0)) (List.replicate n []) := by
  obtain ⟨_, _, _, hn, _, _⟩ := shapeB_line hs
  obtain ⟨i0, hi, hz0, hz1, hz2⟩ := info_parts empty_sets
  have hmk : ∀ W, (Instr.makeSlice 24 (.int .i64 (n : Int)) (.int .i64 (n : Int))).run Tryz.prog W = .ok (.slice (some ⟨W.heap.size, 0, none⟩) n n) (W.alloc (.cells (madeCells (Value.slice none 0 0).cells (n * 1)) 28)) := fun W => by
    have := Go.run_make (P := Tryz.prog) W 24 28 i0 (.slice none 0 0) Tryz.underlying24 hi hz0 .i64 .i64 n n (by omega) (Int.le_refl _) (by rw [hz2]; omega) (by omega)
    rw [hz1] at this
    simpa using this
  go_enter Tryz.func9, Tryz.ntmps9
  go_wp2_with fail
  refine (rshape_any _ _ _ _).mono ?_
  rintro e W ⟨rfl, hb⟩
  rw [hs]
  have hb2 : Below w.heap.size w W := ((((Below.refl _ _).alloc (Nat.le_refl _) _).alloc (by simp) _)).trans (hb.mono (by simp <;> omega))
  have hbox : W.heap[w.heap.size + 1]? = some (.cells #[.int .i64 0, .int .i64 0, .int .i64 0, .slice none 0 0] 26 (0, 0)) := by
    rw [hb.block _ (by simp)]
    have := heap_alloc_new (w.alloc (.cells #[.int .i64 line, .int .i64 (n : Int), .int .i64 ways] 23)) (.cells #[.int .i64 0, .int .i64 0, .int .i64 0, .slice none 0 0] 26)
    simpa using this
  have hbx : W.heap[w.heap.size]? = some (.cells #[.int .i64 line, .int .i64 (n : Int), .int .i64 ways] 23 (0, 0)) := by
    rw [hb.block _ (by simp <;> omega)]
    exact (heap_alloc_old _ _ (by simp)).trans (heap_alloc_new w _)
  have hwsz := hb.size
  simp at hwsz
  have HB := Lib.hid hbox
  have HB2 := Lib.hid hb2
  have e0 : W.cell? ⟨w.heap.size, 0, none⟩ = some (.int .i64 line) := by simp [World.cell?, hbx]
  have e1 : W.cell? ⟨w.heap.size, 1, none⟩ = some (.int .i64 (n : Int)) := by simp [World.cell?, hbx]
  have e2 : W.cell? ⟨w.heap.size, 2, none⟩ = some (.int .i64 ways) := by simp [World.cell?, hbx]
  obtain ⟨V, hV⟩ : ∃ V, W.drew.alloc (.cells (madeCells (Value.slice none 0 0).cells (n * 1)) 28) = V := ⟨_, rfl⟩
  have hmk1 := hmk W.drew
  rw [hV] at hmk1
  have hmk1 : (Instr.makeSlice 24 (.int .i64 (n : Int)) (.int .i64 (n : Int))).run Tryz.prog W.drew = .ok (.slice (some ⟨W.heap.size, 0, none⟩) n n) V := hmk1
  have hbv : Below W.heap.size W V := by rw [← hV]; exact (bdrewN (Below.refl _ _) 1).trans (balloc W.drew _)
  have HBV := Lib.hid hbv
  have e3 := bkeep hbv e0
  have e4 := bkeep hbv e1
  have e5 := bkeep hbv e2
  have hbox1 := belowBox hbv hbox
  have HB1 := Lib.hid hbox1
  obtain ⟨s0, s1, s2, s3, d0⟩ := box4 hbox1
  have HO := Lib.hid (show V.ownsRow w.heap.size 28 1 (.slice (some ⟨W.heap.size, 0, none⟩) n n) n (List.replicate n (.slice none 0 0)) by
    have hX := World.ownsRow_lit (base := w.heap.size) (e := 28) (size := 1) W.drew (madeCells (Value.slice none 0 0).cells (n * 1)) n (show w.heap.size ≤ W.heap.size by omega) (by unfold maxLen; omega) (by simp [madeCells])
    rw [made_nil, Nat.mul_one] at hX
    rw [← hV]
    rw [Nat.mul_one]
    exact hX)
  clear hbox hb hbx hb2 hmk hV hbv hbox1
  go_wp2_with fail
  go_region
  go_wp2_with fail
  (try simp only [Exit.inBlock, Exit.then])
  refine bodyPost_ret (v := .tuple #[.agg #[.int .i64 line, .int .i64 (n : Int), .int .i64 ways, .slice (some ⟨W.heap.size, 0, none⟩) n n], .int .i64 0]) (results_cell2 rfl rfl rfl (run_loadVar_row (P := Tryz.prog) _ _ 26 26 _ (0, 0) _ (set4_heap HB1.out _ _ _ _) Tryz.underlying26 rfl (by kernel_rfl))) rfl ?_
  refine ⟨bset4 (HB2.out.trans (HBV.out.mono (by omega))) (by omega) _ _ _ _, _, rfl, ?_⟩
  have hos := ownSets_new HO.out
  refine hos.upd (F := fun k => k = w.heap.size + 1) ?_ ?_
  · exact (((Upd.setCell V ⟨w.heap.size + 1, 0, none⟩ _).trans (Upd.setCell _ ⟨w.heap.size + 1, 1, none⟩ _) fun _ h => .inl h).trans (Upd.setCell _ ⟨w.heap.size + 1, 2, none⟩ _) fun _ h => .inl h).trans (Upd.setCell _ ⟨w.heap.size + 1, 3, none⟩ _) fun _ h => .inl h
  · intro k hk e
    rw [e] at hk
    rcases hk with hk | ⟨i, hi, hk⟩
    · omega
    · rw [List.length_replicate] at hi
      simp [gv, List.getD_eq_getElem?_getD, List.getElem?_replicate, hi, Value.ownBlock] at hk
end Go.Proofs.YtdkacdfhapgboaaGreat

/- The specification's caches: Copied. -/
set_option linter.unusedVariables false
set_option linter.unusedSimpArgs false
namespace Go.Proofs.YtdkacdfhapgboaaGreat
open Go.RowKit

/-- What Copied has made of the first sets. -/
structure CopI (B : Nat) (v : Value) (k : Nat) (vs : List Value) (L : List (List Int)) (W : World) : Prop where
  row : W.ownsRow B 28 1 v k vs
  each : ∀ i, i < k → W.ownsRow B 27 1 (gv vs i) (gl L i).length (nums .u32 (gl L i))
  apart : ∀ i j, i < k → j < k → i ≠ j → (gv vs i).ownBlock = none ∨ (gv vs i).ownBlock ≠ (gv vs j).ownBlock
  outer : ∀ i, i < k → ∀ b, (gv vs i).ownBlock = some b → v.ownBlock ≠ some b
theorem gv_left {vs : List Value} {v2 : Value} {i : Nat} (h : i < vs.length) : gv (vs ++ [v2]) i = gv vs i := by
  simp [gv, List.getD_eq_getElem?_getD, List.getElem?_append_left h]
theorem gv_last (vs : List Value) (v2 : Value) : gv (vs ++ [v2]) vs.length = v2 := by
  simp [gv, List.getD_eq_getElem?_getD]
theorem CopI.step {B k : Nat} {wr W2 W3 W4 : World} {v v2 v4 : Value} {vs : List Value} {L : List (List Int)} {o : Obj} (h : CopI B v k vs L wr) (hB : B ≤ wr.heap.size) (b2 : Below wr.heap.size wr W2)
    (ho2 : W2.ownsRow wr.heap.size 27 1 v2 (gl L k).length (nums .u32 (gl L k))) (h3 : W2.alloc o = W3) (ho4 : W4.ownsRow B 28 1 v4 (k + 1) (vs ++ [v2])) (hg4 : W3.grownBy W4 v.ownBlock) (hat : v4.ownBlock = v.ownBlock ∨ v4.ownBlock = some W3.heap.size) :
    CopI B v4 (k + 1) (vs ++ [v2]) L W4 ∧ Below B wr W4 := by
  have hvl : vs.length = k := by have := h.row.1; omega
  have b3 : Below wr.heap.size wr W3 := by rw [← h3]; exact b2.alloc b2.size _
  have hsz2 := b2.size
  have hsz3 : W3.heap.size = W2.heap.size + 1 := by rw [← h3]; simp
  have b23 : Below W2.heap.size W2 W3 := by rw [← h3]; exact balloc _ _
  have hvlt : ∀ b, v.ownBlock = some b → B ≤ b ∧ b < wr.heap.size := fun b hb => h.row.lt b hb
  have hv2lt : ∀ b, v2.ownBlock = some b → wr.heap.size ≤ b ∧ b < W2.heap.size := fun b hb => ho2.lt b hb
  have hu4 := Upd.of_grown hg4
  have hel : ∀ i, i < k → ∀ b, (gv vs i).ownBlock = some b → b < wr.heap.size := fun i hi b hb => ((h.each i hi).lt b hb).2
  refine ⟨⟨ho4, fun i hi => ?_, fun i j hi hj hne => ?_, fun i hi b hb e => ?_⟩, ?_⟩
  · by_cases hik : i < k
    · rw [gv_left (by omega)]
      exact own_upd (own_upd (h.each i hik) (Upd.of_below b3) fun b hb e => by have := hel i hik b hb; omega) hu4 fun b hb e => h.outer i hik b hb e
    · obtain rfl : i = k := by omega
      rw [show gv (vs ++ [v2]) i = v2 by rw [← hvl]; exact gv_last _ _]
      exact own_upd (own_upd (own_base' ho2 fun j hj => by have := (ho2.lt j hj).1; omega) (Upd.of_below b23) fun b hb e => by have := (hv2lt b hb).2; omega) hu4 fun b hb e => by
        have := (hv2lt b hb).1
        have := (hvlt b e).2
        omega
  · by_cases hik : i < k <;> by_cases hjk : j < k
    · rw [gv_left (by omega), gv_left (by omega)]
      exact h.apart i j hik hjk hne
    · obtain rfl : j = k := by omega
      rw [gv_left (by omega), show gv (vs ++ [v2]) j = v2 by rw [← hvl]; exact gv_last _ _]
      cases hb : (gv vs i).ownBlock with
      | none => exact .inl rfl
      | some b =>
        refine .inr fun e => ?_
        (
          have := hel i hik b hb
          have := (hv2lt b e.symm).1
          omega)
    · obtain rfl : i = k := by omega
      rw [gv_left (i := j) (by omega), show gv (vs ++ [v2]) i = v2 by rw [← hvl]; exact gv_last _ _]
      cases hb : v2.ownBlock with
      | none => exact .inl rfl
      | some b =>
        refine .inr fun e => ?_
        (
          have := hel j hjk b e.symm
          have := (hv2lt b hb).1
          omega)
    · omega
  · by_cases hik : i < k
    · rw [gv_left (by omega)] at hb
      rcases hat with e2 | e2
      · exact h.outer i hik b hb (e2 ▸ e)
      · rw [e2] at e
        cases e
        have := hel i hik _ hb
        omega
    · obtain rfl : i = k := by omega
      rw [show gv (vs ++ [v2]) i = v2 by rw [← hvl]; exact gv_last _ _] at hb
      have h5 := hv2lt b hb
      rcases hat with e2 | e2
      · rw [e2] at e
        have := (hvlt b e).2
        omega
      · rw [e2] at e
        cases e
        omega
  · have hb3 : Below B wr W3 := b3.mono hB
    exact hb3.trans (hu4.below (by omega) fun b hb => (hvlt b hb).1)
theorem CopI.keep {B k : Nat} {wr W : World} {v : Value} {vs : List Value} {L : List (List Int)} (h : CopI B v k vs L wr) (b : Below wr.heap.size wr W) : CopI B v k vs L W :=
  ⟨own_upd h.row (Upd.of_below b) fun j hj e => by have := (h.row.lt j hj).2; omega, fun i hi => own_upd (h.each i hi) (Upd.of_below b) fun j hj e => by have := ((h.each i hi).lt j hj).2; omega, h.apart, h.outer⟩
theorem CopI.sets {B g c : Nat} {W : World} {vs : List Value} {L : List (List Int)} (h : CopI B (.slice (some ⟨g, 0, none⟩) L.length c) L.length vs L W) : OwnSets W B g c vs L := ⟨h.row, h.each, h.apart⟩
theorem rd_slice (W : World) (v : Value) : Rd (W.alloc (.cells #[v] 28)) (some ⟨W.heap.size, 0, none⟩) 1 1 [v] :=
  ⟨by simp, by omega, fun j hj => ⟨_, rfl, by
    have hj0 : j = 0 := by simpa using hj
    subst hj0
    have := heap_alloc_new W (.cells #[v] 28)
    rw [show ((⟨W.heap.size, 0, none⟩ : Addr).add 0) = ⟨W.heap.size, 0, none⟩ from rfl]
    simp only [World.cell?]
    rw [this]
    rfl⟩⟩

/-- What Copied hands back. -/
structure CopR (line sets ways : Int) (L : List (List Int)) (w : World) (e : Ending) (w' : World) : Prop where
  ex : ∃ A c vs, e = .returned (.agg #[.int .i64 line, .int .i64 sets, .int .i64 ways, .slice A L.length c]) ∧ RdSets w' A vs L ∧ (A = none → c = 0) ∧ (1 ≤ L.length → ∃ g, A = some ⟨g, 0, none⟩ ∧ OwnSets w' w.heap.size g c vs L)
  below : Below w.heap.size w w'

set_option maxRecDepth 100000 in
set_option maxHeartbeats 2000000 in
theorem rcopied_any (line sets ways : Int) (A : Option Addr) (n c : Nat) (vs : List Value) (L : List (List Int)) (w : World) (h : RdSets w A vs L) (hn : L.length = n) (hn2 : n ≤ 1024) (hm : ∀ i, i < n → (gl L i).length ≤ 1024) :
    Calls Tryz.prog 15 #[.agg #[.int .i64 line, .int .i64 sets, .int .i64 ways, .slice A n c]] w (CopR line sets ways L w) := by
  obtain ⟨W0, hW0⟩ : ∃ W0, (w.alloc (.cells #[.int .i64 line, .int .i64 sets, .int .i64 ways, .slice A n c] 26)).alloc (.cells #[.int .i64 0, .int .i64 0, .int .i64 0, .slice none 0 0] 26) = W0 := ⟨_, rfl⟩
  have hb0 : Below w.heap.size w W0 := by rw [← hW0]; exact ((Below.refl _ _).alloc (Nat.le_refl _) _).alloc (by simp) _
  have hx0 : W0.heap[w.heap.size]? = some (.cells #[.int .i64 line, .int .i64 sets, .int .i64 ways, .slice A n c] 26 (0, 0)) := by rw [← hW0]; exact (heap_alloc_old _ _ (by simp)).trans (heap_alloc_new w _)
  have hx1 : W0.heap[w.heap.size + 1]? = some (.cells #[.int .i64 0, .int .i64 0, .int .i64 0, .slice none 0 0] 26 (0, 0)) := by rw [← hW0]; exact alloc_at _ _ _ (by simp)
  have hsz : w.heap.size + 2 ≤ W0.heap.size := by rw [← hW0]; simp
  have hle := h.row.le
  rw [hn] at hle
  have H := Lib.hid (h.below hb0)
  have HX0 := Lib.hid hx0
  have HX1 := Lib.hid hx1
  have HB0 := Lib.hid hb0
  have HM := Lib.hid hm
  have HN := Lib.hid hn
  have HSZ := Lib.hid hsz
  have HST := Lib.hid (show CopI W0.heap.size (.slice none 0 0) 0 [] L W0 from ⟨World.ownsRow_nil _ _ _ _, fun i hi => by omega, fun i j hi => by omega, fun i hi => by omega⟩)
  clear h hx0 hx1 hb0 hm hn hsz
  go_enter Tryz.func15, Tryz.ntmps15
  go_wp2_with fail
  go_loopw [3, 4] (fun ov iv wr => ∃ (k : Nat) (v : Value) (vs2 : List Value), ov = v ∧ iv = .int .i64 k ∧ k ≤ n ∧ Hid (CopI W0.heap.size v k vs2 L wr) ∧ Hid (Below W0.heap.size W0 wr)) (fun _ iv _ => n - (intOf iv).toNat)
  case atStart => exact ⟨0, _, [], rfl, rfl, Nat.zero_le _, HST, Lib.hid (Below.refl _ _)⟩
  case round =>
    obtain ⟨k, v, vs2, hov, rfl, hk, hI, hB⟩ := hrel
    subst hov
    obtain ⟨A2, cv, hv2, _⟩ := own_rd hI.out.row
    subst hv2
    have hxr := belowBox hB.out HX0.out
    obtain ⟨c0, c1, c2, c3, _⟩ := box4 hxr
    have hrd := H.out.below hB.out
    by_cases hlt : k < n
    · obtain ⟨ad, hA, hc⟩ := hrd.at k (by rw [HN.out]; exact hlt)
      subst hA
      obtain ⟨A6, c6, e6, hn6, hc6, hr6⟩ := (hrd.each k (by rw [HN.out]; exact hlt)).rd
      rw [e6] at hc
      have hml := HM.out k hlt
      have hvl2 : vs2.length = k := by have := hI.out.row.1; omega
      obtain ⟨l, hl⟩ : ∃ l, gl L k = l := ⟨_, rfl⟩
      rw [hl] at hc hr6 hml
      obtain ⟨j0, hj0, r0, r1, r2⟩ := info_parts info_u32
      obtain ⟨i0, hi0, q0, q1, q2⟩ := info_parts empty_sets
      obtain ⟨W1, hW1⟩ : ∃ W, wr.alloc (.cells #[] 27) = W := ⟨_, rfl⟩
      have hb1 : Below wr.heap.size wr W1 := by rw [← hW1]; exact balloc _ _
      have ho1 : W1.ownsRow wr.heap.size 27 1 (.slice (some ⟨wr.heap.size, 0, none⟩) 0 0) 0 [] := by rw [← hW1]; exact World.ownsRow_lit (base := wr.heap.size) (e := 27) (size := 1) wr #[] 0 (Nat.le_refl _) (by decide) rfl
      obtain ⟨v2, W2, run2, ho2, hg2, _⟩ := app_at (P := Tryz.prog) (t := 28) (ty := 28) (c := c6) Tryz.underlying28 hj0 r0 r1 r2 rfl ho1 (Rd.below hr6 hb1) (numsR_one _ _) (by unfold maxLen; omega) (by omega) hb1.size
      rw [Nat.zero_add, List.nil_append] at ho2
      obtain ⟨A7, c7, e7, _⟩ := own_rd ho2
      subst e7
      have hb2 : Below wr.heap.size wr W2 := hb1.trans ((Upd.of_grown hg2).below hb1.size fun k hk => by have e : wr.heap.size = k := Option.some.inj hk; omega)
      obtain ⟨W3, hW3⟩ : ∃ W, W2.alloc (.cells #[.slice A7 l.length c7] 28) = W := ⟨_, rfl⟩
      have hb3 : Below wr.heap.size wr W3 := by rw [← hW3]; exact hb2.alloc hb2.size _
      have ho3 : W3.ownsRow W0.heap.size 28 1 (.slice A2 k cv) k vs2 := (hI.out.keep hb3).row
      have hr3 : Rd W3 (some ⟨W2.heap.size, 0, none⟩) 1 1 [.slice A7 l.length c7] := by rw [← hW3]; exact rd_slice W2 _
      have hone : ∀ u ∈ [Value.slice A7 l.length c7], u.oneCell' = true := by
        intro u hu
        rw [List.mem_singleton.1 hu]
        simp [Value.oneCell']
      obtain ⟨v4, W4, run4, ho4, hg4, hat4⟩ := app_at (P := Tryz.prog) (t := 24) (ty := 24) (c := 1) Tryz.underlying24 hi0 q0 q1 q2 rfl ho3 hr3 hone (by unfold maxLen; omega) (by omega) (by have := hB.out.size; have := hb3.size; omega)
      obtain ⟨hst, hbst⟩ := hI.out.step hB.out.size hb2 (by rw [hl]; exact ho2) hW3 ho4 hg4 hat4
      have e1 := bkeep hb1 c3
      have e2 := bkeep hb1 hc
      have HST2 := Lib.hid hst
      have HBST := Lib.hid (hB.out.trans hbst)
      clear hst hbst ho2 ho3 ho4 hg2 hg4 hat4 hr3 hone hb2 hb3 hb1 ho1 hr6 e6 hn6 hc6 hrd hvl2 hj0 r0 r1 r2 hi0 q0 q1 q2 hl hxr
      go_wp2_with (at_builtin; first | refine Lib.wpList_append_run _ rfl (.tmp 13) (.tmp 18) _ _ rfl _ _ rfl rfl _ _ run2 ?_ | refine Lib.wpList_append_run _ rfl (.tmp 12) (.tmp 20) _ _ rfl _ _ rfl rfl _ _ run4 ?_)
      go_roundw
      case rel => exact ⟨k + 1, _, _, rfl, by go_num, by omega, HST2, HBST⟩
      case measure => simp [intOf]; omega
    · obtain rfl : k = n := by omega
      have hx1 := belowBox hB.out HX1.out
      obtain ⟨s0, s1, s2, s3, d1⟩ := box4 hx1
      obtain ⟨_, _, _, _, d0⟩ := box4 hxr
      have HXA := Lib.hid hxr
      have HXB := Lib.hid hx1
      have hI2 := hI.out
      have hsz := HSZ.out
      have hbs := hB.out.size
      have hW1 : (wr.setCell ⟨w.heap.size, 3, none⟩ (.slice A2 k cv)).heap[w.heap.size + 1]? = some (.cells #[.int .i64 0, .int .i64 0, .int .i64 0, .slice none 0 0] 26 (0, 0)) :=
        (Below.heap_setCell wr ⟨w.heap.size, 3, none⟩ _ (w.heap.size + 1) (fun (e : w.heap.size + 1 = w.heap.size) => by omega)).trans hx1
      have HXC := Lib.hid hW1
      clear hxr hx1 hrd hW1
      go_wp2_with fail
      (try simp only [Exit.inBlock, Exit.then])
      refine bodyPost_ret (v := .agg #[.int .i64 line, .int .i64 sets, .int .i64 ways, .slice A2 k cv]) (results_cell1 rfl rfl (run_loadVar_row (P := Tryz.prog) _ _ 26 26 _ (0, 0) _ (set4_heap HXC.out _ _ _ _) Tryz.underlying26 rfl (by kernel_rfl))) rfl ?_
      have hbe : Below w.heap.size w wr := HB0.out.trans (hB.out.mono HB0.out.size)
      obtain ⟨W9, hW9⟩ : ∃ W9, ((((wr.setCell ⟨w.heap.size, 3, none⟩ (.slice A2 k cv)).setCell ⟨w.heap.size + 1, 0, none⟩ (.int .i64 line)).setCell ⟨w.heap.size + 1, 1, none⟩ (.int .i64 sets)).setCell ⟨w.heap.size + 1, 2, none⟩ (.int .i64 ways)).setCell ⟨w.heap.size + 1, 3, none⟩ (.slice A2 k cv) = W9 := ⟨_, rfl⟩
      have hu9 : Upd (fun b => b = w.heap.size ∨ b = w.heap.size + 1) wr W9 := by
        rw [← hW9]
        exact (((((Upd.refl _ wr).set (.inl rfl) 3 _).set (.inr rfl) 0 _).set (.inr rfl) 1 _).set (.inr rfl) 2 _).set (.inr rfl) 3 _
      have hb9 : Below w.heap.size w W9 := hbe.trans (hu9.below hbe.size fun b hb => by omega)
      rw [hW9]
      have hC : CopI W0.heap.size (.slice A2 k cv) k vs2 L W9 := ⟨own_upd hI2.row hu9 fun j hj e => by have := (hI2.row.lt j hj).1; omega, fun i hi => own_upd (hI2.each i hi) hu9 fun j hj e => by have := ((hI2.each i hi).lt j hj).1; omega, hI2.apart, hI2.outer⟩
      have hbase : ∀ {e sz v n cs}, W9.ownsRow W0.heap.size e sz v n cs → W9.ownsRow w.heap.size e sz v n cs := fun h => own_base' h fun j hj => by have := (h.lt j hj).1; omega
      have hN := HN.out
      refine ⟨⟨A2, cv, vs2, by rw [hN], ⟨?_, fun i hi => ⟨?_, ?_⟩⟩, ?_, fun h1 => ?_⟩, hb9⟩
      · rw [hN]
        obtain ⟨A', c', e', r'⟩ := own_rd hC.row
        cases e'
        exact r'
      · rw [hN] at hi
        obtain ⟨A', c', e', r'⟩ := own_rd (hC.each i hi)
        refine ⟨A', c', e', ?_, ?_, r'⟩
        · intro e
          subst e
          rcases (hC.each i hi).2 with ⟨e, _⟩ | ⟨g', c'', _, e, _⟩
          · rw [e'] at e
            injection e with _ _ e3
          · rw [e'] at e; cases e
        · have h9 := hC.each i hi
          rw [e'] at h9
          rcases h9.2 with ⟨e, e0⟩ | ⟨g', c'', cur, e, _, _, h1, _⟩
          · injection e with _ e2 e3
            omega
          · injection e with _ _ e3
            omega
      · exact (H.out.each i hi).u32
      · intro e
        subst e
        rcases hC.row.2 with ⟨e, _⟩ | ⟨g', c', _, e, _⟩
        · cases e; rfl
        · cases e
      · obtain ⟨g, c', e'⟩ := own_slice hC.row (by omega)
        cases e'
        refine ⟨g, rfl, ⟨?_, fun i hi => ?_, fun i j hi hj => ?_⟩⟩
        · rw [hN]; exact hbase hC.row
        · exact hbase (hC.each i (by omega))
        · exact hC.apart i j (by omega) (by omega)
end Go.Proofs.YtdkacdfhapgboaaGreat

/- The specification's caches: Access. -/
set_option linter.unusedVariables false
set_option linter.unusedSimpArgs false
namespace Go.Proofs.YtdkacdfhapgboaaGreat
open Go.RowKit

set_option maxRecDepth 100000 in
set_option maxHeartbeats 1000000 in
theorem rAccess_bad (line sets ways : Int) (A : Option Addr) (c : Nat) (vs : List Value) (L : List (List Int)) (at_ cnt : Int) (w : World) (h : RdSets w A vs L) (hq : decide (cacheOk line sets ways L) = false) :
    Calls Tryz.prog 17 #[.agg #[.int .i64 line, .int .i64 sets, .int .i64 ways, .slice A L.length c], .int .u32 at_, .int .i64 cnt] w fun e w' => e = .returned (.tuple #[emptyC, .slice none 0 0, .int .i64 330]) ∧ Below w.heap.size w w' := by
  obtain ⟨W0, hW0⟩ : ∃ W0, (w.alloc (.cells #[.int .i64 line, .int .i64 sets, .int .i64 ways, .slice A L.length c] 26)).alloc (.cells #[.int .i64 0, .int .i64 0, .int .i64 0, .slice none 0 0] 26) = W0 := ⟨_, rfl⟩
  have hb0 : Below w.heap.size w W0 := by rw [← hW0]; exact ((Below.refl _ _).alloc (Nat.le_refl _) _).alloc (by simp) _
  have hx0 : W0.heap[w.heap.size]? = some (.cells #[.int .i64 line, .int .i64 sets, .int .i64 ways, .slice A L.length c] 26 (0, 0)) := by rw [← hW0]; exact (heap_alloc_old _ _ (by simp)).trans (heap_alloc_new w _)
  have hx1 : W0.heap[w.heap.size + 1]? = some (.cells #[.int .i64 0, .int .i64 0, .int .i64 0, .slice none 0 0] 26 (0, 0)) := by rw [← hW0]; exact alloc_at _ _ _ (by simp)
  have hsz : W0.heap.size = w.heap.size + 2 := by rw [← hW0]; simp
  obtain ⟨p0, p1, p2, p3, _⟩ := box4 hx0
  have H := Lib.hid (h.below hb0)
  have HX := Lib.hid hx1
  clear h hx0 hx1
  go_enter Tryz.func17, Tryz.ntmps17
  go_wp2_with fail
  refine (rIsCache_any _ _ _ _ _ _ _ _ H.out).mono ?_
  rintro e W ⟨rfl, hb⟩
  have hy := belowBox hb HX.out
  obtain ⟨q0, q1, q2, q3, d0⟩ := box4 hy
  have HY := Lib.hid hy
  rw [hq]
  clear hy
  go_wp2
  (try simp only [Exit.inBlock, Exit.then])
  refine bodyPost_ret (v := .tuple #[emptyC, .slice none 0 0, .int .i64 330]) (results_cell3 rfl rfl rfl rfl (run_loadVar_row (P := Tryz.prog) _ _ 26 26 _ (0, 0) _ (set4_heap HY.out _ _ _ _) Tryz.underlying26 rfl (by kernel_rfl))) rfl ?_
  exact ⟨rfl, bset4 (hb0.trans (hb.mono (by omega))) (by omega) _ _ _ _⟩
set_option maxRecDepth 100000 in
set_option maxHeartbeats 1000000 in
theorem rAccess_num (line sets ways : Int) (A : Option Addr) (c : Nat) (vs : List Value) (L : List (List Int)) (at_ cnt : Int) (w : World) (h : RdSets w A vs L) (hq : decide (cacheOk line sets ways L) = true) (hn : cnt < 1 ∨ 65536 < cnt) :
    Calls Tryz.prog 17 #[.agg #[.int .i64 line, .int .i64 sets, .int .i64 ways, .slice A L.length c], .int .u32 at_, .int .i64 cnt] w fun e w' => e = .returned (.tuple #[emptyC, .slice none 0 0, .int .i64 1]) ∧ Below w.heap.size w w' := by
  obtain ⟨W0, hW0⟩ : ∃ W0, (w.alloc (.cells #[.int .i64 line, .int .i64 sets, .int .i64 ways, .slice A L.length c] 26)).alloc (.cells #[.int .i64 0, .int .i64 0, .int .i64 0, .slice none 0 0] 26) = W0 := ⟨_, rfl⟩
  have hb0 : Below w.heap.size w W0 := by rw [← hW0]; exact ((Below.refl _ _).alloc (Nat.le_refl _) _).alloc (by simp) _
  have hx0 : W0.heap[w.heap.size]? = some (.cells #[.int .i64 line, .int .i64 sets, .int .i64 ways, .slice A L.length c] 26 (0, 0)) := by rw [← hW0]; exact (heap_alloc_old _ _ (by simp)).trans (heap_alloc_new w _)
  have hx1 : W0.heap[w.heap.size + 1]? = some (.cells #[.int .i64 0, .int .i64 0, .int .i64 0, .slice none 0 0] 26 (0, 0)) := by rw [← hW0]; exact alloc_at _ _ _ (by simp)
  have hsz : W0.heap.size = w.heap.size + 2 := by rw [← hW0]; simp
  obtain ⟨p0, p1, p2, p3, _⟩ := box4 hx0
  have H := Lib.hid (h.below hb0)
  have HX := Lib.hid hx1
  clear h hx0 hx1
  go_enter Tryz.func17, Tryz.ntmps17
  go_wp2_with fail
  refine (rIsCache_any _ _ _ _ _ _ _ _ H.out).mono ?_
  rintro e W ⟨rfl, hb⟩
  have hy := belowBox hb HX.out
  obtain ⟨q0, q1, q2, q3, d0⟩ := box4 hy
  have HY := Lib.hid hy
  rw [hq]
  clear hy
  have hd : (decide (1 ≤ cnt) && decide (cnt ≤ 65536)) = false := by
    rcases hn with hn | hn
    · rw [decide_eq_false (show ¬ 1 ≤ cnt by omega)]; rfl
    · rw [decide_eq_false (show ¬ cnt ≤ 65536 by omega), Bool.and_false]
  have HD := Lib.hid hd
  clear hd hn
  go_wp2_with fail
  refine (risSize_any _ _).mono ?_
  rintro e W' ⟨rfl, rfl⟩
  rw [HD.out]
  go_wp2
  (try simp only [Exit.inBlock, Exit.then])
  refine bodyPost_ret (v := .tuple #[emptyC, .slice none 0 0, .int .i64 1]) (results_cell3 rfl rfl rfl rfl (run_loadVar_row (P := Tryz.prog) _ _ 26 26 _ (0, 0) _ (set4_heap HY.out _ _ _ _) Tryz.underlying26 rfl (by kernel_rfl))) rfl ?_
  exact ⟨rfl, bset4 (hb0.trans (hb.mono (by omega))) (by omega) _ _ _ _⟩

set_option maxRecDepth 100000 in
set_option maxHeartbeats 1000000 in
theorem rAccess_ok (line ways : Int) (A : Option Addr) (n c : Nat) (vs : List Value) (L : List (List Int)) (at_ cnt : Int) (w : World) (h : RdSets w A vs L) (hL : L.length = n) (hq : cacheOk line n ways L) (ha : 0 ≤ at_ ∧ at_ < 4294967296) (hn : 1 ≤ cnt ∧ cnt ≤ 65536) :
    Calls Tryz.prog 17 #[.agg #[.int .i64 line, .int .i64 (n : Int), .int .i64 ways, .slice A n c], .int .u32 at_, .int .i64 cnt] w fun e w' => ∃ g c' vs' vo, e = .returned (.tuple #[.agg #[.int .i64 line, .int .i64 (n : Int), .int .i64 ways, .slice (some ⟨g, 0, none⟩) n c'], vo, .int .i64 0]) ∧
      OwnSets w' w.heap.size g c' vs' (runL n ways L (linI line at_ cnt)).1 ∧
      w'.ownsRow w.heap.size 27 1 vo (runL n ways L (linI line at_ cnt)).2.length (nums .u32 (runL n ways L (linI line at_ cnt)).2) ∧ Below w.heap.size w w' := by
  obtain ⟨hq1, hq2, hq3⟩ := id hq
  obtain ⟨l1, l2, l3, l4, l5, l6⟩ := shapeB_line hq1
  have hqd : decide (cacheOk line n ways L) = true := decide_eq_true hq
  obtain ⟨W0, hW0⟩ : ∃ W0, (w.alloc (.cells #[.int .i64 line, .int .i64 (n : Int), .int .i64 ways, .slice A n c] 26)).alloc (.cells #[.int .i64 0, .int .i64 0, .int .i64 0, .slice none 0 0] 26) = W0 := ⟨_, rfl⟩
  have hb0 : Below w.heap.size w W0 := by rw [← hW0]; exact ((Below.refl _ _).alloc (Nat.le_refl _) _).alloc (by simp) _
  have hx0 : W0.heap[w.heap.size]? = some (.cells #[.int .i64 line, .int .i64 (n : Int), .int .i64 ways, .slice A n c] 26 (0, 0)) := by rw [← hW0]; exact (heap_alloc_old _ _ (by simp)).trans (heap_alloc_new w _)
  have hx1 : W0.heap[w.heap.size + 1]? = some (.cells #[.int .i64 0, .int .i64 0, .int .i64 0, .slice none 0 0] 26 (0, 0)) := by rw [← hW0]; exact alloc_at _ _ _ (by simp)
  have hsz : W0.heap.size = w.heap.size + 2 := by rw [← hW0]; simp
  obtain ⟨p0, p1, p2, p3, _⟩ := box4 hx0
  have hic : Calls Tryz.prog 58 #[.agg #[.int .i64 line, .int .i64 (n : Int), .int .i64 ways, .slice A n c]] W0 fun e w' => e = .returned (.bool true) ∧ Below W0.heap.size W0 w' := by
    have := rIsCache_any line n ways A c vs L W0 (h.below hb0)
    rw [hqd, hL] at this
    exact this
  have HIC := Lib.hid hic
  have H := Lib.hid (h.below hb0)
  have HX := Lib.hid hx1
  have HX0 := Lib.hid hx0
  have HB0 := Lib.hid hb0
  have HS3 := Lib.hid (show ∀ i, i < n → (gl L i).length ≤ ways.toNat from fun i hi => by have := (hq3 i (by omega)).1; omega)
  clear h hx0 hx1 hic hq3 hb0
  have hd : (decide (1 ≤ cnt) && decide (cnt ≤ 65536)) = true := by rw [decide_eq_true hn.1, decide_eq_true hn.2]; rfl
  have HD := Lib.hid hd
  clear hd
  go_enter Tryz.func17, Tryz.ntmps17
  go_wp2_with fail
  refine HIC.out.mono ?_
  rintro e W ⟨rfl, hb⟩
  go_wp2_with fail
  refine (risSize_any _ _).mono ?_
  rintro e W' ⟨rfl, rfl⟩
  rw [HD.out]
  obtain ⟨r0, r1, r2, r3, _⟩ := box4 (belowBox hb HX0.out)
  go_wp2_with fail
  have hcp := rcopied_any line n ways A n c vs L W (H.out.below hb) hL (by omega) (fun i hi => by have := HS3.out i hi; omega)
  refine hcp.mono ?_
  rintro e W2 ⟨⟨A', c', vs', rfl, _, _, h1⟩, hb2⟩
  obtain ⟨g, rfl, hS⟩ := h1 (by omega)
  rw [hL]
  obtain ⟨W4, hW4⟩ : ∃ W4, W2.alloc (.cells #[.int .i64 line, .int .i64 (n : Int), .int .i64 ways, .slice (some ⟨g, 0, none⟩) n c'] 26) = W4 := ⟨_, rfl⟩
  have hb4 : Below W2.heap.size W2 W4 := by rw [← hW4]; exact balloc _ _
  have hx4 : W4.heap[W2.heap.size]? = some (.cells #[.int .i64 line, .int .i64 (n : Int), .int .i64 ways, .slice (some ⟨g, 0, none⟩) n c'] 26 (0, 0)) := by rw [← hW4]; exact heap_alloc_new _ _
  have hs4 : W4.heap.size = W2.heap.size + 1 := by rw [← hW4]; simp
  have hft : ∀ k, foot g vs' n k → W.heap.size ≤ k ∧ k < W2.heap.size := fun k hk => hS.foot_lt k (by rw [hL]; exact hk)
  have HS := Lib.hid (hS.upd (Upd.of_below hb4) fun k hk e => by have := (hS.foot_lt k hk).2; omega)
  have HFT := Lib.hid hft
  have HB := Lib.hid hb
  have HB2 := Lib.hid (hb2.trans (hb4.mono hb2.size))
  have HBS := Lib.hid hb2
  have HX4 := Lib.hid hx4
  have HS4' := Lib.hid hs4
  obtain ⟨t0, t1, t2, t3, _⟩ := box4 hx4
  clear h1 hcp hb hb2 hS hft hx4 hs4 hb4
  go_wp2_with fail
  refine (raccess_any W.heap.size g c' n vs' L line ways at_ cnt W4 HS.out hL HB2.out.size hq1 (fun i hi => HS3.out i (by omega)) ha hn).mono ?_
  rintro e W3 ⟨vs3, vo, rfl, hs3, ho3, ha3, hf3, hu3⟩
  have hsz1 := HB.out.size
  have hsz2 := HB2.out.size
  have hsz3 := HBS.out.size
  have hsz4 := HS4'.out
  have hft : ∀ k, foot g vs' n k → W.heap.size ≤ k := fun k hk => (HFT.out k hk).1
  obtain ⟨t0, t1, t2, t3, _⟩ := box4 ((hu3.block W2.heap.size (by omega) fun h => by have := (HFT.out _ h).2; omega).trans HX4.out)
  have hb3 : Below W.heap.size W4 W3 := hu3.below (by omega) hft
  have hbw : Below w.heap.size w W3 := HB0.out.trans ((HB.out.trans ((HB2.out.trans hb3).mono HB.out.size)).mono (by omega))
  have hy := belowBox (HB.out.trans ((HB2.out.trans hb3).mono HB.out.size)) HX.out
  obtain ⟨q0, q1, q2, q3, d0⟩ := box4 hy
  have HY := Lib.hid hy
  have HS4 := Lib.hid hs3
  have HO4 := Lib.hid ho3
  have HBW := Lib.hid hbw
  clear hy hs3 ho3 ha3 hf3 hu3 hft hb3 hbw hsz1 hsz2 hsz3 hsz4
  go_wp2_with fail
  (try simp only [Exit.inBlock, Exit.then])
  refine bodyPost_ret (v := .tuple #[.agg #[.int .i64 line, .int .i64 (n : Int), .int .i64 ways, .slice (some ⟨g, 0, none⟩) n c'], vo, .int .i64 0]) (results_cell3 rfl rfl rfl rfl (run_loadVar_row (P := Tryz.prog) _ _ 26 26 _ (0, 0) _ (set4_heap HY.out _ _ _ _) Tryz.underlying26 rfl (by kernel_rfl))) rfl ?_
  obtain ⟨W9, hW9⟩ : ∃ W9, ((((W3.setCell ⟨w.heap.size + 1, 0, none⟩ (.int .i64 line)).setCell ⟨w.heap.size + 1, 1, none⟩ (.int .i64 (n : Int))).setCell ⟨w.heap.size + 1, 2, none⟩ (.int .i64 ways)).setCell ⟨w.heap.size + 1, 3, none⟩ (.slice (some ⟨g, 0, none⟩) n c')) = W9 := ⟨_, rfl⟩
  have hup : Upd (fun k => k = w.heap.size + 1) W3 W9 := by
    rw [← hW9]
    exact ((((Upd.refl (fun k => k = w.heap.size + 1) W3).set rfl 0 _).set rfl 1 _).set rfl 2 _).set rfl 3 _
  rw [hW9]
  have hlt := HS4.out.foot_lt
  have hsW : w.heap.size + 2 ≤ W.heap.size := by have := HB.out.size; omega
  have hsW4 := HB2.out.size
  refine ⟨g, c', vs3, vo, rfl, ?_, ?_, HBW.out.trans (hup.below (by have := HBW.out.size; omega) fun k hk => by omega)⟩
  · refine (HS4.out.upd hup fun k hk e => ?_).base fun k hk => ?_
    · have := (hlt k hk).1; omega
    · have := (hlt k hk).1; omega
  · refine own_base' (own_upd HO4.out hup fun k hk e => ?_) fun k hk => ?_
    · have := (HO4.out.lt k hk).1; omega
    · have := (HO4.out.lt k hk).1; omega
end Go.Proofs.YtdkacdfhapgboaaGreat

/- The specification's caches: Replay. -/
set_option linter.unusedVariables false
set_option linter.unusedSimpArgs false
namespace Go.Proofs.YtdkacdfhapgboaaGreat
open Go.RowKit

/-- Behind the access and the append of a round. -/
theorem RepI.step0 {w W W1 W2 : World} {b g c n : Nat} {line ways : Int} {pre : List Int} {x : Int} {v v2 : Value} {vs' : List Value} {tmp : Obj} (h : RepI w b g c n line ways pre v W) {vs : List Value}
    (hvs : OwnSets W w.heap.size g c vs (replayL line n ways (List.replicate n []) pre).1) (hap : ∀ k, v.ownBlock = some k → ¬ foot g vs n k)
    (hs : OwnSets W1 w.heap.size g c vs' (runL n ways (replayL line n ways (List.replicate n []) pre).1 (linI line x 1)).1)
    (hfr : ∀ k, foot g vs' n k → foot g vs n k ∨ W.heap.size ≤ k) (hu : Upd (foot g vs n) W W1)
    (ho : W2.ownsRow w.heap.size 4 1 v2 (pre.length + 1) (bools (replayL line n ways (List.replicate n []) pre).2 ++ [.bool (((runL n ways (replayL line n ways (List.replicate n []) pre).1 (linI line x 1)).2.length : Int) == 0)]))
    (hg : (W1.alloc tmp).grownBy W2 v.ownBlock) (hat : v2.ownBlock = v.ownBlock ∨ v2.ownBlock = some (W1.heap.size + 1)) : RepI w b g c n line ways (pre ++ [x]) v2 W2 := by
  have hl0 : (replayL line n ways (List.replicate n []) pre).1.length = n := by rw [(replayL_length _ _ _ _ _).1]; simp
  have hl1 : (runL n ways (replayL line n ways (List.replicate n []) pre).1 (linI line x 1)).1.length = n := by rw [runL_length, hl0]
  have hU2 : Upd (fun k => v.ownBlock = some k) W1 W2 := (Upd.alloc _ _ _).trans (Upd.of_grown hg) fun k h => .inl h
  have hf1 : ∀ k, foot g vs' n k → v.ownBlock ≠ some k := fun k hk e => by
    rcases hfr k hk with h1 | h1
    · exact hap k e h1
    · have := (h.out.lt k e).2; omega
  have hlt1 := hs.foot_lt
  rw [hl1] at hlt1
  have hbf : ¬ foot g vs n b := by have := foot_ne hvs h.box (by decide) (by decide); rwa [hl0] at this
  have hbl := (Array.getElem?_eq_some_iff.1 h.box).1
  have hW1 := hu.size
  refine ⟨⟨vs', ?_, ?_⟩, ?_, ?_, ?_, h.ge⟩
  · rw [replayL_snoc]
    refine hs.upd hU2 fun k hk e => ?_
    rw [hl1] at hk
    exact hf1 k hk e
  · intro k hk hf
    rcases hat with e | e
    · exact hf1 k hf (e ▸ hk)
    · have e2 : W1.heap.size + 1 = k := by rw [e] at hk; simpa using hk
      have := (hlt1 k hf).2
      omega
  · rw [replayL_snoc]
    simp only [List.length_append, List.length_cons, List.length_nil]
    simpa [bools] using ho
  · rw [hU2.block b (by omega) fun e => own_ne h.out h.box (by decide) e, hu.block b hbl hbf]
    exact h.box
  · have h1 : Below w.heap.size w W1 := h.below.trans (hu.below h.below.size fun k hk => by
      have := hvs.foot_lt k (by rw [hl0]; exact hk)
      exact this.1)
    exact h1.trans (hU2.below (by have := h1.size; omega) fun k e => (h.out.lt k e).1)

theorem RepI.drewD {w W : World} {b g c n : Nat} {line ways : Int} {pre : List Int} {v : Value} (h : RepI w b g c n line ways pre v W) : RepI w b g c n line ways pre v W.drew := by
  obtain ⟨vs, h1, h2⟩ := h.sets
  exact ⟨⟨vs, h1.upd (F := fun _ => False) (Upd.drew _ _) fun _ _ h => h, h2⟩, own_upd (F := fun _ => False) h.out (Upd.drew _ _) fun _ _ h => h, h.box, bdrewN h.below 1, h.ge⟩
set_option maxRecDepth 100000 in
set_option maxHeartbeats 1000000 in
theorem rReplay_bad (line sets ways : Int) (A : Option Addr) (n c : Nat) (w : World) (hs : shapeB line sets ways = false) :
    Calls Tryz.prog 20 #[.agg #[.int .i64 line, .int .i64 sets, .int .i64 ways], .slice A n c] w fun e w' => e = .returned (.tuple #[.slice none 0 0, .int .i64 330]) ∧ Below w.heap.size w w' := by
  go_enter Tryz.func20, Tryz.ntmps20
  go_wp2_with fail
  refine (rnewCache_bad _ _ _ hs _).mono ?_
  rintro e W ⟨hb, rfl⟩
  have hbw : Below w.heap.size w W := bvia (balloc w _) hb (Nat.le_refl _)
  have HB := Lib.hid (hbw.alloc hbw.size (.cells #[.int .i64 0, .int .i64 0, .int .i64 0, .slice none 0 0] 26))
  clear hb hbw
  go_wp2_with fail
  go_ret2
  exact ⟨rfl, HB.out⟩

set_option maxRecDepth 100000 in
set_option maxHeartbeats 1000000 in
theorem rReplay_ok (line ways : Int) (n : Nat) (A : Option Addr) (ca m : Nat) (l : List Int) (w : World) (hs : shapeB line n ways = true) (hl : RdI w .u32 A m l) (hm : l.length = m) (hl2 : m ≤ 1000) (hu : ∀ x ∈ l, 0 ≤ x ∧ x < 4294967296) :
    Calls Tryz.prog 20 #[.agg #[.int .i64 line, .int .i64 (n : Int), .int .i64 ways], .slice A m ca] w fun e w' => ∃ v, e = .returned (.tuple #[v, .int .i64 0]) ∧
      w'.ownsRow w.heap.size 4 1 v m (bools (replayL line n ways (List.replicate n []) l).2) ∧ Below w.heap.size w w' := by
  obtain ⟨l1, l2, l3, l4, l5, l6⟩ := shapeB_line hs
  have H := Lib.hid hl
  have HU := Lib.hid hu
  have HMM := Lib.hid hm
  clear hl hu hm
  go_enter Tryz.func20, Tryz.ntmps20
  go_wp2_with fail
  refine (rnewCache_ok line ways n hs _).mono ?_
  rintro e W ⟨hb, g, rfl, hos⟩
  have hll : (m : Int) ≤ 100000 := by omega
  have hbw : Below w.heap.size w W := bvia (balloc w _) hb (Nat.le_refl _)
  have hwsz := hbw.size
  obtain ⟨W2, hW2⟩ : ∃ W2, W.alloc (.cells #[.int .i64 line, .int .i64 (n : Int), .int .i64 ways, .slice (some ⟨g, 0, none⟩) n n] 26) = W2 := ⟨_, rfl⟩
  have hI0 : RepI w W.heap.size g n n line ways [] (.slice none 0 0) W2 := by
    rw [← hW2]
    refine ⟨⟨_, (hos.upd (F := fun _ => False) (Upd.alloc _ _ _) fun _ _ h => h).base fun k hk => by have := (hos.foot_lt k hk).1; simp at this; omega, fun k hk => by simp [Value.ownBlock] at hk⟩, World.ownsRow_nil _ _ _ _, heap_alloc_new _ _, hbw.alloc hwsz _, by omega⟩
  have hI := Lib.hid hI0
  clear hI0 hos hb hbw
  go_wp2_with fail
  have hlm : m ≤ 9223372036854775807 := by omega
  go_loopw [8, 9] (fun o i wr => ∃ k : Nat, k ≤ m ∧ i = .int .i64 k ∧ ∃ Av cv, o = .slice Av k cv ∧ Hid (RepI w W.heap.size g n n line ways (l.take k) (.slice Av k cv) wr)) (fun _ i _ => m - (intOf i).toNat)
  case atStart => exact ⟨0, Nat.zero_le _, rfl, _, _, rfl, hI⟩
  case round =>
    obtain ⟨k, hk, rfl, Av, cv, rfl, hR⟩ := hrel
    by_cases hlt : k < m
    · have hkl : k < l.length := by rw [HMM.out]; exact hlt
      obtain ⟨ad, rfl, hc⟩ := RdI.at (H.out.below hR.out.below) k hlt
      obtain ⟨u1, u2⟩ := HU.out _ (gi_mem l k hkl)
      have hsnoc : l.take (k + 1) = l.take k ++ [gi l k] := by rw [List.take_succ_eq_append_getElem hkl, gi_get l k hkl]
      have hlk : (l.take k).length = k := by rw [List.length_take]; omega
      obtain ⟨x, hx⟩ : ∃ x, x = gi l k := ⟨_, rfl⟩
      rw [← hx] at hc u1 u2 hsnoc
      obtain ⟨b0, b1, b2, b3, _⟩ := box4 hR.out.box
      have HSN := Lib.hid hsnoc
      have HLK := Lib.hid hlk
      clear hx hsnoc hlk hkl
      go_wp2_with fail
      go_still_tail 5, (by kernel_rfl)
      go_wp2_with fail
      have hRd := hR.out.drewD
      have HRD := Lib.hid hRd
      clear b0 b1 b2 b3 hc hR hRd
      generalize wr.drew = Wd at *
      obtain ⟨vs, hvs, hap⟩ := HRD.out.sets
      have hl0 : (replayL line n ways (List.replicate n []) (l.take k)).1.length = n := by rw [(replayL_length _ _ _ _ _).1]; simp
      have hsm : Small ways (replayL line n ways (List.replicate n []) (l.take k)).1 := replayL_small _ (small_new _ _)
      have hwb := HRD.out.below.size
      refine (raccess_any w.heap.size g n n vs _ line ways x 1 Wd hvs hl0 hwb hs hsm ⟨u1, u2⟩ ⟨by omega, by omega⟩).mono ?_
      rintro e W3 ⟨vs', vo, rfl, hs3, ho3, hap3, hfr3, hu3⟩
      obtain ⟨Ao, co, rfl, _⟩ := own_rd ho3
      have hout := own_upd HRD.out.out hu3 fun k hk => hap k hk
      rw [HLK.out] at hout
      have hstep := fun (v2 : Value) (W4 : World) (tmp : Obj) => RepI.step0 (v2 := v2) (W2 := W4) (x := x) (tmp := tmp) HRD.out hvs hap hs3 hfr3 hu3
      rw [HLK.out, ← HSN.out] at hstep
      have hsz3 := hu3.size
      obtain ⟨q, hq⟩ : ∃ q, q = (runL n ways (replayL line n ways (List.replicate n []) (l.take k)).1 (linI line x 1)).2.length := ⟨_, rfl⟩
      rw [← hq] at hstep ho3 ⊢
      have HOUT := Lib.hid hout
      have HST := Lib.hid hstep
      clear hout hstep hq hs3 ho3 hap3 hfr3 hu3 hvs hap hsm hl0
      obtain ⟨hit, hh⟩ : ∃ hit, ((q : Int) == 0) = hit := ⟨_, rfl⟩
      rw [hh] at HST
      go_wp2_with (at_builtin; refine wpList_append_own_at _ rfl _ _ 41 rfl w.heap.size 4 _ _ 1 1 rfl rfl rfl rfl rfl rfl (by decide) _ _ _ rfl (HOUT.out.alloc _) ⟨W3.heap.size, 0, none⟩ 1 1 [.bool hit] rfl rfl ?c1 ?c2 ?c3 ?c4 ?c5 ?_)
      case c1 =>
        intro j u hj
        match j, hj with
        | 0, hj => simp at hj; subst hj; simp [Addr.add]
      case c2 => intro u hu; simp at hu; subst hu; rfl
      case c3 => unfold maxLen; omega
      case c4 => omega
      case c5 => simp; omega
      intro v2 w2 hown2 hgrow2 _ hat2
      obtain ⟨g2, c2, rfl⟩ := ownsRow_succ hown2
      have HN := Lib.hid (HST.out _ w2 _ hown2 hgrow2 (by simpa using hat2))
      clear hown2 hgrow2 hat2
      go_wp2
      go_roundw
      case rel => exact ⟨k + 1, by omega, by go_num, _, _, rfl, HN⟩
      case measure => simp [intOf]; omega
    · obtain rfl : k = m := by omega
      have hR' := hR.out
      have hlt' : l.take k = l := List.take_of_length_le (by have := HMM.out; omega)
      rw [hlt'] at hR'
      have HR := Lib.hid hR'
      clear hR hR' hlt'
      go_wp2
      go_ret2
      refine ⟨_, rfl, ?_, HR.out.below⟩
      have := HR.out.out
      rw [HMM.out] at this
      exact this
end Go.Proofs.YtdkacdfhapgboaaGreat

/- The specification's SameCache, of any rows. -/
set_option linter.unusedVariables false
set_option linter.unusedSimpArgs false
namespace Go.Proofs.YtdkacdfhapgboaaGreat
open Go.RowKit

attribute [local irreducible] World.setCell in
set_option maxRecDepth 100000 in
set_option maxHeartbeats 1000000 in
theorem sameCacheG (line sets ways : Int) (A A' : Option Addr) (n c c' : Nat) (vs vs' : List Value) (L : List (List Int)) (w : World) (h : RdSets w A vs L) (h' : RdSets w A' vs' L) (hn : L.length = n) :
    Calls Tryz.prog 12 #[.agg #[.int .i64 line, .int .i64 sets, .int .i64 ways, .slice A n c], .agg #[.int .i64 line, .int .i64 sets, .int .i64 ways, .slice A' n c']] w fun e w' => e = .returned (.bool true) ∧ Below w.heap.size w w' := by
  have H := Lib.hid h
  have H' := Lib.hid h'
  have HN := Lib.hid hn
  have hle := h.row.le
  rw [hn] at hle
  clear h h' hn
  go_enter Tryz.func12, Tryz.ntmps12
  go_wp2_with fail
  obtain ⟨V0, hV0⟩ : ∃ V, ((w.alloc (.cells #[.int .i64 line, .int .i64 sets, .int .i64 ways, .slice A n c] 26)).alloc (.cells #[.int .i64 line, .int .i64 sets, .int .i64 ways, .slice A' n c'] 26)) = V := ⟨_, rfl⟩
  have hb0 : Below w.heap.size w V0 := by rw [← hV0]; exact ((Below.refl _ _).alloc (Nat.le_refl _) _).alloc (by simp) _
  have hx0 : V0.heap[w.heap.size]? = some (.cells #[.int .i64 line, .int .i64 sets, .int .i64 ways, .slice A n c] 26 (0, 0)) := by rw [← hV0]; exact (heap_alloc_old _ _ (by simp)).trans (heap_alloc_new w _)
  have hx1 : V0.heap[w.heap.size + 1]? = some (.cells #[.int .i64 line, .int .i64 sets, .int .i64 ways, .slice A' n c'] 26 (0, 0)) := by rw [← hV0]; exact alloc_at _ _ _ (by simp)
  rw [hV0]
  have HX0 := Lib.hid hx0
  have HX1 := Lib.hid hx1
  have HB0 := Lib.hid hb0
  clear hV0 hx0 hx1 hb0
  go_loopw [5] (fun i wr => ∃ k : Nat, k ≤ n ∧ i = .int .i64 k ∧ Hid (Below V0.heap.size V0 wr)) (fun i _ => n - (intOf i).toNat)
  case atStart => exact ⟨0, Nat.zero_le _, rfl, Lib.hid (Below.refl _ _)⟩
  case round =>
    obtain ⟨k, hk, rfl, hI⟩ := hrel
    have s1 := boxAt (i := 3) (belowBox hI.out HX0.out) rfl
    have s2 := boxAt (i := 3) (belowBox hI.out HX1.out) rfl
    by_cases hlt : k < n
    · obtain ⟨A6, c6, e6, hn6, hc6, hr6⟩ := (H.out.each k (by rw [HN.out]; exact hlt)).rd
      obtain ⟨A7, c7, e7, hn7, hc7, hr7⟩ := (H'.out.each k (by rw [HN.out]; exact hlt)).rd
      have hvl4 : k < vs.length := by have := H.out.row.len; rw [HN.out] at this; omega
      have hvl5 : k < vs'.length := by have := H'.out.row.len; rw [HN.out] at this; omega
      have hbw : Below w.heap.size w wr := HB0.out.trans (hI.out.mono HB0.out.size)
      obtain ⟨ad, rfl, h3⟩ := H.out.at k (by rw [HN.out]; exact hlt)
      obtain ⟨ad', rfl, h4⟩ := H'.out.at k (by rw [HN.out]; exact hlt)
      rw [e6] at h3
      rw [e7] at h4
      have s3 := bkeep hbw h3
      have s4 := bkeep hbw h4
      clear h3 h4
      have heqq : ∀ q' : After wr.heap.size wr, Calls Tryz.prog 18 #[.slice A6 (gl L k).length c6, .slice A7 (gl L k).length c7] q'.W fun e w' => e = .returned (.bool true) ∧ Below q'.W.heap.size q'.W w' := fun q' =>
        sameWords_true A6 A7 _ c6 c7 (gl L k) q'.W (Rd.below hr6 (hbw.trans (q'.below.mono hbw.size))) (Rd.below hr7 (hbw.trans (q'.below.mono hbw.size)))
      obtain ⟨p, hp⟩ : ∃ p, (gl L k).length = p := ⟨_, rfl⟩
      rw [hp] at s3 s4 heqq
      have HEQQ := Lib.hid heqq
      clear e6 e7 hn6 hn7 hc6 hc7 hr6 hr7 hvl4 hvl5 hbw heqq hp
      go_wp2_with fail
      have f1 := After.cell s1
      have f2 := After.cell s2
      have f3 := After.cell s3
      have f4 := After.cell s4
      refine region_after (Below.refl wr.heap.size wr) (by kernel_rfl) (by kernel_rfl) ?_
      repeat (go_big_quiet_step (first
        | (go_at_call 18; exact calls_after (Nat.le_refl _) (HEQQ.out _))))
      refine wpQuiet_nil ?_
      intro _ hw'
      obtain ⟨nq, hw''⟩ := hw'
      subst hw''
      clear f1 f2 f3 f4
      go_wp2_with fail
      go_roundw
      case rel => exact ⟨k + 1, by omega, by go_num, Lib.hid (hI.out.trans (nq.below.mono hI.out.size))⟩
      case measure => simp [intOf]; omega
    · go_wp2_with fail
      go_ret
      exact ⟨rfl, HB0.out.trans (hI.out.mono HB0.out.size)⟩
end Go.Proofs.YtdkacdfhapgboaaGreat

/- SimCaches: the law's own small. -/
set_option linter.unusedVariables false
set_option linter.unusedSimpArgs false
namespace Go.Proofs.YtdkacdfhapgboaaGreat
open Go.RowKit

/-- What the law's small asks. -/
def smallB (sets : Int) (L : List (List Int)) : Bool := decide (L.length ≤ 64) && (L.all fun l => decide (l.length ≤ 20)) && (decide (sets ≤ 64) || decide (1024 < sets))

theorem gl_get (L : List (List Int)) (k : Nat) (h : k < L.length) : gl L k = L[k] := by simp [gl, List.getD_eq_getElem?_getD, h]
theorem smallB_long {sets : Int} {L : List (List Int)} (h : 64 < L.length) : smallB sets L = false := by
  unfold smallB
  rw [decide_eq_false (by omega)]
  rfl
theorem smallB_row {sets : Int} {L : List (List Int)} {k : Nat} (hk : k < L.length) (h : 20 < (gl L k).length) : smallB sets L = false := by
  have : (L.all fun l => decide (l.length ≤ 20)) = false := by
    rw [List.all_eq_false]
    refine ⟨L[k], List.getElem_mem hk, ?_⟩
    rw [gl_get L k hk] at h
    simp; omega
  unfold smallB
  rw [this]
  simp
theorem smallB_all {sets : Int} {L : List (List Int)} (h1 : L.length ≤ 64) (h : ∀ j, j < L.length → (gl L j).length ≤ 20) : smallB sets L = (decide (sets ≤ 64) || decide (1024 < sets)) := by
  have : (L.all fun l => decide (l.length ≤ 20)) = true := by
    rw [List.all_eq_true]
    intro l hl
    obtain ⟨j, hj, rfl⟩ := List.getElem_of_mem hl
    have := h j hj
    rw [gl_get L j hj] at this
    simpa using this
  unfold smallB
  rw [this, decide_eq_true h1]
  rfl
theorem smallB_true {sets : Int} {L : List (List Int)} (h : smallB sets L = true) : L.length ≤ 64 ∧ (∀ j, j < L.length → (gl L j).length ≤ 20) ∧ (sets ≤ 64 ∨ 1024 < sets) := by
  unfold smallB at h
  simp only [Bool.and_eq_true, Bool.or_eq_true, decide_eq_true_eq, List.all_eq_true] at h
  exact ⟨h.1.1, fun j hj => by rw [gl_get L j hj]; exact h.1.2 _ (List.getElem_mem hj), h.2⟩

set_option maxRecDepth 100000 in
set_option maxHeartbeats 2000000 in
theorem small_any (line sets ways : Int) (A : Option Addr) (n c : Nat) (vs : List Value) (L : List (List Int)) (w : World) (h : RdSets w A vs L) (hn : L.length = n) :
    Calls Tryz.prog 6 #[.agg #[.int .i64 line, .int .i64 sets, .int .i64 ways, .slice A n c]] w fun e w' => e = .returned (.bool (smallB sets L)) ∧ Below w.heap.size w w' := by
  obtain ⟨W0, hW0⟩ : ∃ W0, w.alloc (.cells #[.int .i64 line, .int .i64 sets, .int .i64 ways, .slice A n c] 26) = W0 := ⟨_, rfl⟩
  have hb0 : Below w.heap.size w W0 := by rw [← hW0]; exact balloc w _
  have hx0 : W0.heap[w.heap.size]? = some (.cells #[.int .i64 line, .int .i64 sets, .int .i64 ways, .slice A n c] 26 (0, 0)) := by rw [← hW0]; exact heap_alloc_new w _
  obtain ⟨c0, c1, c2, c3, _⟩ := box4 hx0
  have hle := h.row.le
  rw [hn] at hle
  have H := Lib.hid (h.below hb0)
  have HN := Lib.hid hn
  have HB := Lib.hid hb0
  clear h hx0 hb0 hn
  by_cases hlong : (64 : Int) < (n : Int)
  · have hs : smallB sets L = false := smallB_long (by rw [HN.out]; omega)
    rw [hs]
    go_enter Tryz.func6, Tryz.ntmps6
    go_wp2_with fail
    go_ret
    exact ⟨rfl, HB.out⟩
  · have hn64 : (n : Int) ≤ 64 := by omega
    go_enter Tryz.func6, Tryz.ntmps6
    go_wp2_with fail
    go_loop [11] (fun i => ∃ k : Nat, k ≤ n ∧ i = .int .i64 k ∧ Hid (∀ j, j < k → (gl L j).length ≤ 20)) (fun i => n - (intOf i).toNat)
    case atStart => exact ⟨0, Nat.zero_le _, rfl, Lib.hid fun j hj => absurd hj (Nat.not_lt_zero _)⟩
    case round =>
      obtain ⟨k, hk, rfl, hI⟩ := hrel
      by_cases hlt : k < n
      · obtain ⟨ad, rfl, hc⟩ := H.out.at k (by rw [HN.out]; exact hlt)
        obtain ⟨A6, c6, e6, _, _, _⟩ := (H.out.each k (by rw [HN.out]; exact hlt)).rd
        rw [e6] at hc
        obtain ⟨p, hp⟩ : ∃ p, (gl L k).length = p := ⟨_, rfl⟩
        rw [hp] at hc
        have HP := Lib.hid hp
        clear e6 hp
        by_cases h20 : (20 : Int) < (p : Int)
        · have hs : smallB sets L = false := smallB_row (k := k) (by rw [HN.out]; exact hlt) (by rw [HP.out]; omega)
          have HS := Lib.hid hs
          clear hs
          go_wp2_with fail
          go_ret
          exact ⟨by rw [HS.out]; rfl, HB.out⟩
        · go_wp2_with fail
          go_round
          case rel =>
            refine ⟨k + 1, by omega, by go_num, Lib.hid fun j hj => ?_⟩
            by_cases hjk : j < k
            · exact hI.out j hjk
            · obtain rfl : j = k := by omega
              rw [HP.out]; omega
          case measure => simp [intOf]; omega
      · obtain rfl : k = n := by omega
        have hs : smallB sets L = (decide (sets ≤ 64) || decide (1024 < sets)) := smallB_all (by rw [HN.out]; omega) (by rw [HN.out]; exact hI.out)
        by_cases h64 : sets ≤ 64
        · have HS := Lib.hid (show smallB sets L = true by rw [hs, decide_eq_true h64]; rfl)
          clear hs
          go_wp2_with fail
          go_ret
          exact ⟨by rw [HS.out]; rfl, HB.out⟩
        · by_cases h10 : 1024 < sets
          · have HS := Lib.hid (show smallB sets L = true by rw [hs, decide_eq_false h64, decide_eq_true h10]; rfl)
            clear hs
            have g1 : decide (sets ≤ 64) = false := decide_eq_false h64
            have g2 : decide (1024 < sets) = true := decide_eq_true h10
            go_wp2_with fail
            go_ret
            exact ⟨by rw [HS.out]; rfl, HB.out⟩
          · have HS := Lib.hid (show smallB sets L = false by rw [hs, decide_eq_false h64, decide_eq_false h10]; rfl)
            clear hs
            have g1 : decide (sets ≤ 64) = false := decide_eq_false h64
            have g2 : decide (1024 < sets) = false := decide_eq_false h10
            go_wp2_with fail
            go_ret
            exact ⟨by rw [HS.out]; rfl, HB.out⟩
end Go.Proofs.YtdkacdfhapgboaaGreat

/- SimCaches: what the program and the specification hand back, without cases. -/
set_option linter.unusedVariables false
set_option linter.unusedSimpArgs false
namespace Go.Proofs.YtdkacdfhapgboaaGreat
open Go.RowKit

/-- A cache (its numbers and sets), a list of lines, and an error. -/
structure CA where
  line : Int
  sets : Int
  ways : Int
  M : List (List Int)
  O : List Int
  err : Int
def badCA (e : Int) : CA := ⟨0, 0, 0, [], [], e⟩
def newL (line sets ways : Int) : CA := if shapeB line sets ways then ⟨line, sets, ways, List.replicate sets.toNat [], [], 0⟩ else badCA 330
def accL (line sets ways : Int) (L : List (List Int)) (at_ cnt : Int) : CA :=
  if cacheOk line sets ways L then (if 1 ≤ cnt ∧ cnt ≤ 65536 then ⟨line, sets, ways, (runL sets ways L (linI line at_ cnt)).1, (runL sets ways L (linI line at_ cnt)).2, 0⟩ else badCA 1) else badCA 330
def repB (line sets ways : Int) (l : List Int) : List Bool × Int := if shapeB line sets ways then ((replayL line sets ways (List.replicate sets.toNat []) l).2, 0) else ([], 330)

/-- What NewCache hands back. -/
structure NewE (p : CA) (w : World) (e : Ending) (w' : World) : Prop where
  below : Below w.heap.size w w'
  ex : ∃ A c vs, e = .returned (.tuple #[.agg #[.int .i64 p.line, .int .i64 p.sets, .int .i64 p.ways, .slice A p.M.length c], .int .i64 p.err]) ∧ RdSets w' A vs p.M
/-- What Access hands back. -/
structure AccE (p : CA) (w : World) (e : Ending) (w' : World) : Prop where
  below : Below w.heap.size w w'
  ex : ∃ A c vs P pc, e = .returned (.tuple #[.agg #[.int .i64 p.line, .int .i64 p.sets, .int .i64 p.ways, .slice A p.M.length c], .slice P p.O.length pc, .int .i64 p.err]) ∧ RdSets w' A vs p.M ∧ RdI w' .u32 P p.O.length p.O
/-- What Replay hands back. -/
structure RepE (q : List Bool × Int) (w : World) (e : Ending) (w' : World) : Prop where
  below : Below w.heap.size w w'
  ex : ∃ P pc, e = .returned (.tuple #[.slice P q.1.length pc, .int .i64 q.2]) ∧ RdB w' P q.1.length q.1

theorem rdSets_nil (w : World) : RdSets w none [] [] := ⟨⟨by simp, by simp, fun j hj => absurd hj (by simp)⟩, fun i hi => absurd hi (by simp)⟩
theorem newE_bad {p : CA} (hp : p = badCA 330) {w w' : World} {e : Ending} (he : e = .returned (.tuple #[.agg #[.int .i64 0, .int .i64 0, .int .i64 0, .slice none 0 0], .int .i64 330])) (hb : Below w.heap.size w w') : NewE p w e w' := by
  subst hp
  exact ⟨hb, none, 0, [], he, rdSets_nil _⟩
theorem newE_ok {line ways : Int} {n g : Nat} {p : CA} (hp : p = ⟨line, n, ways, List.replicate n [], [], 0⟩) {w w' : World} {e : Ending} (he : e = .returned (.tuple #[.agg #[.int .i64 line, .int .i64 (n : Int), .int .i64 ways, .slice (some ⟨g, 0, none⟩) n n], .int .i64 0])) (ho : OwnSets w' w.heap.size g n (List.replicate n (.slice none 0 0)) (List.replicate n [])) (hb : Below w.heap.size w w') : NewE p w e w' := by
  subst hp
  refine ⟨hb, _, n, _, by rw [List.length_replicate]; exact he, ho.rdSets (allU_new n)⟩
theorem newL_ok {line sets ways : Int} (h : shapeB line sets ways = true) : ∃ n : Nat, sets = (n : Int) ∧ newL line sets ways = ⟨line, n, ways, List.replicate n [], [], 0⟩ := by
  obtain ⟨_, _, h1, _, _, _⟩ := shapeB_line h
  obtain ⟨n, rfl⟩ : ∃ n : Nat, sets = (n : Int) := ⟨sets.toNat, by omega⟩
  exact ⟨n, rfl, by unfold newL; rw [if_pos h]; rfl⟩
theorem newL_bad {line sets ways : Int} (h : shapeB line sets ways = false) : newL line sets ways = badCA 330 := by unfold newL; rw [h]; rfl
theorem sNew_any (line sets ways : Int) (w : World) : Calls Tryz.prog 8 #[.agg #[.int .i64 line, .int .i64 sets, .int .i64 ways]] w (NewE (newL line sets ways) w) := by
  cases h : shapeB line sets ways
  · exact (newCache_bad line sets ways h w).mono fun e w' ⟨hb, he⟩ => newE_bad (newL_bad h) he hb
  · obtain ⟨n, rfl, hn⟩ := newL_ok h
    exact (newCache_ok line ways n h w).mono fun e w' ⟨hb, g, he, ho⟩ => newE_ok hn he ho hb
theorem rNew_any (line sets ways : Int) (w : World) : Calls Tryz.prog 9 #[.agg #[.int .i64 line, .int .i64 sets, .int .i64 ways]] w (NewE (newL line sets ways) w) := by
  cases h : shapeB line sets ways
  · exact (rnewCache_bad line sets ways h w).mono fun e w' ⟨hb, he⟩ => newE_bad (newL_bad h) he hb
  · obtain ⟨n, rfl, hn⟩ := newL_ok h
    exact (rnewCache_ok line ways n h w).mono fun e w' ⟨hb, g, he, ho⟩ => newE_ok hn he ho hb

theorem accE_bad {p : CA} {k : Int} (hp : p = badCA k) {w w' : World} {e : Ending} (he : e = .returned (.tuple #[emptyC, .slice none 0 0, .int .i64 k])) (hb : Below w.heap.size w w') : AccE p w e w' := by
  subst hp
  exact ⟨hb, none, 0, [], none, 0, he, rdSets_nil _, rd_nil _ _⟩
theorem linI_u (line at_ cnt : Int) (h1 : 4 ≤ line) (h2 : line ≤ 256) : ∀ x ∈ linI line at_ cnt, 0 ≤ x ∧ x < 4294967296 := fun x hx => by
  obtain ⟨a, b⟩ := linI_lt line at_ cnt (by omega) (by omega) x hx
  have : 4294967296 / line ≤ 4294967296 := Int.ediv_le_self _ (by omega)
  exact ⟨a, by omega⟩
theorem accE_ok {line ways at_ cnt : Int} {n g c : Nat} {L : List (List Int)} {vs : List Value} {vo : Value} {p : CA} (hq : cacheOk line n ways L) (hU : AllU L) (hp : p = ⟨line, n, ways, (runL n ways L (linI line at_ cnt)).1, (runL n ways L (linI line at_ cnt)).2, 0⟩) {w w' : World} {e : Ending}
    (he : e = .returned (.tuple #[.agg #[.int .i64 line, .int .i64 (n : Int), .int .i64 ways, .slice (some ⟨g, 0, none⟩) n c], vo, .int .i64 0])) (hS : OwnSets w' w.heap.size g c vs (runL n ways L (linI line at_ cnt)).1)
    (hO : w'.ownsRow w.heap.size 27 1 vo (runL n ways L (linI line at_ cnt)).2.length (nums .u32 (runL n ways L (linI line at_ cnt)).2)) (hb : Below w.heap.size w w') : AccE p w e w' := by
  subst hp
  obtain ⟨l1, l2, _, _, _, _⟩ := shapeB_line hq.1
  have hl : (runL n ways L (linI line at_ cnt)).1.length = n := by rw [runL_length]; have := hq.2.1; omega
  obtain ⟨P, pc, rfl, hr⟩ := own_rd hO
  exact ⟨hb, _, c, vs, P, pc, by rw [hl]; exact he, hS.rdSets (allU_run _ hU (linI_u line at_ cnt l1 l2)), hr⟩
theorem accL_bad {line sets ways : Int} {L : List (List Int)} {at_ cnt : Int} (h : ¬ cacheOk line sets ways L) : accL line sets ways L at_ cnt = badCA 330 := by unfold accL; rw [if_neg h]
theorem accL_num {line sets ways : Int} {L : List (List Int)} {at_ cnt : Int} (h : cacheOk line sets ways L) (hn : ¬ (1 ≤ cnt ∧ cnt ≤ 65536)) : accL line sets ways L at_ cnt = badCA 1 := by unfold accL; rw [if_pos h, if_neg hn]
theorem accL_ok {line sets ways : Int} {L : List (List Int)} {at_ cnt : Int} (h : cacheOk line sets ways L) (hn : 1 ≤ cnt ∧ cnt ≤ 65536) : accL line sets ways L at_ cnt = ⟨line, sets, ways, (runL sets ways L (linI line at_ cnt)).1, (runL sets ways L (linI line at_ cnt)).2, 0⟩ := by unfold accL; rw [if_pos h, if_pos hn]
theorem RdSets.allU {w : World} {A : Option Addr} {vs : List Value} {L : List (List Int)} (h : RdSets w A vs L) : AllU L := fun i hi => (h.each i hi).u32
theorem sAcc_any (line sets ways : Int) (A : Option Addr) (c : Nat) (vs : List Value) (L : List (List Int)) (at_ cnt : Int) (w : World) (h : RdSets w A vs L) (hA : A = none → c = 0) (ha : 0 ≤ at_ ∧ at_ < 4294967296) :
    Calls Tryz.prog 16 #[.agg #[.int .i64 line, .int .i64 sets, .int .i64 ways, .slice A L.length c], .int .u32 at_, .int .i64 cnt] w (AccE (accL line sets ways L at_ cnt) w) := by
  by_cases hq : cacheOk line sets ways L
  · by_cases hn : 1 ≤ cnt ∧ cnt ≤ 65536
    · have hU := h.allU
      obtain rfl := hq.2.1
      obtain ⟨l1, l2, _, _, _, _⟩ := shapeB_line hq.1
      refine (Access_ok line ways A c vs L at_ cnt w h hq hA ha hn (by omega) (by omega)).mono fun e w' ⟨g, c', vs', vo, he, hS, hO, hb⟩ => ?_
      rw [vals_linesL] at hS hO
      exact accE_ok hq hU (accL_ok hq hn) he hS hO hb
    · exact (Access_num line sets ways A c vs L at_ cnt w h (decide_eq_true hq) (by omega)).mono fun e w' ⟨he, hb⟩ => accE_bad (accL_num hq hn) he hb
  · exact (Access_bad line sets ways A c vs L at_ cnt w h (decide_eq_false hq)).mono fun e w' ⟨he, hb⟩ => accE_bad (accL_bad hq) he hb
theorem rAcc_any (line sets ways : Int) (A : Option Addr) (c : Nat) (vs : List Value) (L : List (List Int)) (at_ cnt : Int) (w : World) (h : RdSets w A vs L) (ha : 0 ≤ at_ ∧ at_ < 4294967296) :
    Calls Tryz.prog 17 #[.agg #[.int .i64 line, .int .i64 sets, .int .i64 ways, .slice A L.length c], .int .u32 at_, .int .i64 cnt] w (AccE (accL line sets ways L at_ cnt) w) := by
  by_cases hq : cacheOk line sets ways L
  · by_cases hn : 1 ≤ cnt ∧ cnt ≤ 65536
    · have hU := h.allU
      obtain rfl := hq.2.1
      exact (rAccess_ok line ways A L.length c vs L at_ cnt w h rfl hq ha hn).mono fun e w' ⟨g, c', vs', vo, he, hS, hO, hb⟩ => accE_ok hq hU (accL_ok hq hn) he hS hO hb
    · exact (rAccess_num line sets ways A c vs L at_ cnt w h (decide_eq_true hq) (by omega)).mono fun e w' ⟨he, hb⟩ => accE_bad (accL_num hq hn) he hb
  · exact (rAccess_bad line sets ways A c vs L at_ cnt w h (decide_eq_false hq)).mono fun e w' ⟨he, hb⟩ => accE_bad (accL_bad hq) he hb

theorem repE_bad {q : List Bool × Int} (hq : q = ([], 330)) {w w' : World} {e : Ending} (he : e = .returned (.tuple #[.slice none 0 0, .int .i64 330])) (hb : Below w.heap.size w w') : RepE q w e w' := by
  subst hq
  exact ⟨hb, none, 0, he, ⟨by simp [bools], by simp, fun j hj => absurd hj (by simp [bools])⟩⟩
theorem repE_ok {q : List Bool × Int} {l : List Bool} {m : Nat} (hm : l.length = m) (hq : q = (l, 0)) {w w' : World} {e : Ending} {v : Value} (he : e = .returned (.tuple #[v, .int .i64 0])) (ho : w'.ownsRow w.heap.size 4 1 v m (bools l)) (hb : Below w.heap.size w w') : RepE q w e w' := by
  subst hq
  obtain ⟨P, pc, rfl, hr⟩ := own_rd ho
  subst hm
  exact ⟨hb, P, pc, he, hr⟩
theorem sRep_any (line sets ways : Int) (A : Option Addr) (ca m : Nat) (l : List Int) (w : World) (hl : RdI w .u32 A m l) (hm : l.length = m) (hl2 : m ≤ 1000) (hu : ∀ x ∈ l, 0 ≤ x ∧ x < 4294967296) :
    Calls Tryz.prog 19 #[.agg #[.int .i64 line, .int .i64 sets, .int .i64 ways], .slice A m ca] w (RepE (repB line sets ways l) w) := by
  subst hm
  cases h : shapeB line sets ways
  · exact (replay_bad line sets ways A l.length ca w h).mono fun e w' ⟨he, hb⟩ => repE_bad (by unfold repB; rw [h]; rfl) he hb
  · obtain ⟨n, rfl, hn⟩ := newL_ok h
    exact (replay_ok line ways n A ca l w h hl hl2 hu).mono fun e w' ⟨v, he, ho, hb⟩ => repE_ok (replayL_length _ _ _ _ _).2 (by unfold repB; rw [if_pos h]; rfl) he ho hb
theorem rRep_any (line sets ways : Int) (A : Option Addr) (ca m : Nat) (l : List Int) (w : World) (hl : RdI w .u32 A m l) (hm : l.length = m) (hl2 : m ≤ 1000) (hu : ∀ x ∈ l, 0 ≤ x ∧ x < 4294967296) :
    Calls Tryz.prog 20 #[.agg #[.int .i64 line, .int .i64 sets, .int .i64 ways], .slice A m ca] w (RepE (repB line sets ways l) w) := by
  cases h : shapeB line sets ways
  · exact (rReplay_bad line sets ways A m ca w h).mono fun e w' ⟨he, hb⟩ => repE_bad (by unfold repB; rw [h]; rfl) he hb
  · obtain ⟨n, rfl, hn⟩ := newL_ok h
    exact (rReplay_ok line ways n A ca m l w h hl hm hl2 hu).mono fun e w' ⟨v, he, ho, hb⟩ => repE_ok ((replayL_length _ _ _ _ _).2.trans hm) (by unfold repB; rw [if_pos h]; rfl) he ho hb
end Go.Proofs.YtdkacdfhapgboaaGreat

/- Arguments as they come in: shapes of predictors, predictors. -/
set_option linter.unusedVariables false
set_option linter.unusedSimpArgs false
namespace Go.Proofs.YtdkacdfhapgboaaGreat
open Go.RowKit Go.ChangeShapes Go.WideShapes

section
variable {H : Type} {enc : TypeId × Value → H} {P : Program} {W : World} {base : Nat} {sp : Nat → Bool} {held : Bool}
/-- A cell that reads as a slice of numbers (its spare room, too). -/
theorem slice_rd {t e : TypeId} {k : IntKind} {fuel : Nat} {v : Value} {x : DataW H × List MemPlace} (ht : P.underlying t = some (.slice e)) (he : P.underlying e = some (.int k)) (hc : P.cellsOf e = 1)
    (hf : DataW.trod enc P W base sp held fuel t [v] = some x) : ∃ A c xs, v = .slice A xs.length c ∧ RdI W k A xs.length xs ∧ (A = none → c = 0) ∧ xs.length ≤ c ∧ ∀ n ∈ xs, (Lit.int k n).wf = true := by
  rcases open_ints ht he hc hf with ⟨hcs, _⟩ | ⟨x, l, c, zs, hcs, _, hl, hm, hz, _, hcell, hwz⟩
  · obtain rfl : v = .slice none 0 0 := by simpa using hcs
    exact ⟨none, 0, [], rfl, ⟨by simp, by simp, fun j hj => absurd hj (by simp)⟩, fun _ => rfl, Nat.le_refl _, fun n hn => absurd hn (by simp)⟩
  · obtain rfl : v = .slice (some x) l c := by simpa using hcs
    have hzl : l ≤ zs.length := by split at hz <;> omega
    have hle : l ≤ 9223372036854775807 := by unfold maxLen at hm; omega
    have hlt : (zs.take l).length = l := by rw [List.length_take]; omega
    refine ⟨some x, c, zs.take l, by rw [hlt], ⟨by simp [hlt], by omega, fun j hj => ⟨x, rfl, ?_⟩⟩, (fun h => by cases h), by omega, fun n hn => hwz n (List.mem_of_mem_take hn)⟩
    have hj' : j < l := by simpa [hlt] using hj
    rw [hcell j (by omega)]
    simp [nums, List.getD_eq_getElem?_getD, List.getElem?_eq_getElem (show j < zs.length by omega)]
end
theorem array6 {α : Type} {cs : Array α} (h : cs.size = 6) : ∃ c0 c1 c2 c3 c4 c5, cs = #[c0, c1, c2, c3, c4, c5] := by
  obtain ⟨l⟩ := cs
  match l, h with
  | [c0, c1, c2, c3, c4, c5], _ => exact ⟨c0, c1, c2, c3, c4, c5, rfl⟩
section
variable {H : Type} {enc : TypeId × Value → H} {W : World} {base : Nat} {sp : Nat → Bool} {held : Bool}
set_option maxRecDepth 100000 in
theorem open_predConf {r : Reach} {b0 : Nat} {v : Value} {d : DataW H} {p : List MemPlace} (hv : Value.okWide Tryz.prog W r b0 47 v) (h : DataW.Trod enc Tryz.prog W base sp held 47 v d p) :
    ∃ t h r : Int, v = .agg #[.int .i64 t, .int .i64 h, .int .i64 r] := by
  obtain ⟨v0, v1, v2, y0, y1, y2, n, rfl, _, _, h0, h1, h2⟩ := Joins.open_agg3 Tryz.underlying47 (by kernel_rfl) (by kernel_rfl) hv h
  obtain ⟨t, e0, _, _⟩ := DataW.trod_int Tryz.underlying3 h0
  obtain ⟨u, e1, _, _⟩ := DataW.trod_int Tryz.underlying3 h1
  obtain ⟨r, e2, _, _⟩ := DataW.trod_int Tryz.underlying3 h2
  obtain rfl : v0 = _ := List.singleton_inj.1 e0
  obtain rfl : v1 = _ := List.singleton_inj.1 e1
  obtain rfl : v2 = _ := List.singleton_inj.1 e2
  exact ⟨t, u, r, rfl⟩
theorem fld {P : Program} {n : Nat} {ty : TypeId} {off m : Nat} {cells l : List Value} {x : DataW H × List MemPlace} (q : DataW.trod enc P W base sp held n ty ((cells.drop off).take (P.cellsOf ty)) = some x) (hk : P.cellsOf ty = m) (hl : (cells.drop off).take m = l) : DataW.trod enc P W base sp held n ty l = some x := by
  rw [hk, hl] at q
  exact q
theorem some_of {α : Type} {xs : List α} {i : Nat} (h : i < xs.length) : ∃ y, xs[i]? = some y := ⟨xs[i], List.getElem?_eq_getElem h⟩
set_option maxRecDepth 100000 in
theorem open_pred {r : Reach} {b0 : Nat} {v : Value} {d : DataW H} {p : List MemPlace} (hv : Value.okWide Tryz.prog W r b0 50 v) (h : DataW.Trod enc Tryz.prog W base sp held 50 v d p) :
    ∃ (t h r : Int) (A : Option Addr) (c : Nat) (cs : List Int) (hist : Int) (R : Option Addr) (rc : Nat) (rs : List Int), v = .agg #[.int .i64 t, .int .i64 h, .int .i64 r, .slice A cs.length c, .int .u32 hist, .slice R rs.length rc] ∧
      RdP W A c cs R rc rs ∧ (0 ≤ hist ∧ hist < 4294967296) := by
  obtain ⟨cs, rfl, hsz⟩ := okWide_struct Tryz.underlying50 hv
  obtain ⟨c0, c1, c2, c3, c4, c5, rfl⟩ := array6 (hsz.trans (by kernel_rfl))
  obtain ⟨fuel, hf⟩ := h
  obtain ⟨xs, n, _, _, _, hlen, hfl⟩ := DataW.trod_struct Tryz.underlying50 hf
  have hlen' : xs.length = 4 := hlen
  have k1 : Tryz.prog.cellsOf 47 = 3 := by kernel_rfl
  have k2 : Tryz.prog.cellsOf 48 = 1 := by kernel_rfl
  have k3 : Tryz.prog.cellsOf 27 = 1 := by kernel_rfl
  have k4 : Tryz.prog.cellsOf 28 = 1 := by kernel_rfl
  have k5 : Tryz.prog.cellsOf 3 = 1 := by kernel_rfl
  obtain ⟨y0, e0⟩ := some_of (show 0 < xs.length by omega)
  obtain ⟨y1, e1⟩ := some_of (show 1 < xs.length by omega)
  obtain ⟨y2, e2⟩ := some_of (show 2 < xs.length by omega)
  obtain ⟨y3, e3⟩ := some_of (show 3 < xs.length by omega)
  have f0 : DataW.trod enc Tryz.prog W base sp held n 47 [c0, c1, c2] = some y0 := fld (off := 0) (cells := [c0, c1, c2, c3, c4, c5]) ((hfl 0 _ rfl).trans e0) k1 rfl
  have f1 : DataW.trod enc Tryz.prog W base sp held n 48 [c3] = some y1 := fld (off := 3) (cells := [c0, c1, c2, c3, c4, c5]) ((hfl 1 _ rfl).trans e1) k2 rfl
  have f2 : DataW.trod enc Tryz.prog W base sp held n 27 [c4] = some y2 := fld (off := 4) (cells := [c0, c1, c2, c3, c4, c5]) ((hfl 2 _ rfl).trans e2) k3 rfl
  have f3 : DataW.trod enc Tryz.prog W base sp held n 28 [c5] = some y3 := fld (off := 5) (cells := [c0, c1, c2, c3, c4, c5]) ((hfl 3 _ rfl).trans e3) k4 rfl
  obtain ⟨zs, n', _, _, _, zlen, zfl⟩ := DataW.trod_struct Tryz.underlying47 f0
  have zlen' : zs.length = 3 := zlen
  obtain ⟨z0, g0⟩ := some_of (show 0 < zs.length by omega)
  obtain ⟨z1, g1⟩ := some_of (show 1 < zs.length by omega)
  obtain ⟨z2, g2⟩ := some_of (show 2 < zs.length by omega)
  have j0 : DataW.trod enc Tryz.prog W base sp held n' 3 [c0] = some z0 := fld (off := 0) (cells := [c0, c1, c2]) ((zfl 0 _ rfl).trans g0) k5 rfl
  have j1 : DataW.trod enc Tryz.prog W base sp held n' 3 [c1] = some z1 := fld (off := 1) (cells := [c0, c1, c2]) ((zfl 1 _ rfl).trans g1) k5 rfl
  have j2 : DataW.trod enc Tryz.prog W base sp held n' 3 [c2] = some z2 := fld (off := 2) (cells := [c0, c1, c2]) ((zfl 2 _ rfl).trans g2) k5 rfl
  obtain ⟨t, q0, _, _⟩ := DataW.trod_int Tryz.underlying3 j0
  obtain ⟨u, q1, _, _⟩ := DataW.trod_int Tryz.underlying3 j1
  obtain ⟨r, q2, _, _⟩ := DataW.trod_int Tryz.underlying3 j2
  obtain ⟨hist, q4, _, hw⟩ := DataW.trod_int Tryz.underlying27 f2
  obtain rfl : c0 = _ := List.singleton_inj.1 q0
  obtain rfl : c1 = _ := List.singleton_inj.1 q1
  obtain rfl : c2 = _ := List.singleton_inj.1 q2
  obtain rfl : c4 = _ := List.singleton_inj.1 q4
  obtain ⟨A, c, cs, rfl, a1, a2, a3, _⟩ := slice_rd Tryz.underlying48 Tryz.underlying3 k5 f1
  obtain ⟨R, rc, rs, rfl, b1, b2, b3, _⟩ := slice_rd Tryz.underlying28 Tryz.underlying27 k3 f3
  exact ⟨t, u, r, A, c, cs, hist, R, rc, rs, rfl, ⟨a1, a2, a3, b1, b2, b3⟩, wf_u32 hw⟩
end
end Go.Proofs.YtdkacdfhapgboaaGreat

/- Arguments as they come in: shapes of caches, caches. -/
set_option linter.unusedVariables false
set_option linter.unusedSimpArgs false
namespace Go.Proofs.YtdkacdfhapgboaaGreat
open Go.RowKit Go.ChangeShapes Go.WideShapes

section
variable {H : Type} {enc : TypeId × Value → H} {P : Program} {W : World} {base : Nat} {held : Bool}
/-- A cell that reads as a slice of slices of numbers. -/
theorem rows_rd {t e q : TypeId} {fuel : Nat} {v : Value} {x : DataW H × List MemPlace} (ht : P.underlying t = some (.slice e)) (he : P.underlying e = some (.slice q)) (hq : P.underlying q = some (.int .u32)) (ce : P.cellsOf e = 1) (cq : P.cellsOf q = 1)
    (hf : DataW.trod enc P W base (fun _ => true) held fuel t [v] = some x) : ∃ A c vs L, v = .slice A L.length c ∧ RdSets W A vs L := by
  rcases Deep.open_int_rows ht he hq ce cq hf with ⟨hcs, _⟩ | ⟨a, len, cap, A, M, C, Z, hcs, _, hl, hm, _, hx⟩
  · obtain rfl : v = .slice none 0 0 := by simpa using hcs
    exact ⟨none, 0, [], [], rfl, ⟨⟨by simp, by simp, fun j hj => absurd hj (by simp)⟩, fun i hi => absurd hi (by simp)⟩⟩
  · obtain rfl : v = .slice (some a) len cap := by simpa using hcs
    have hmx : maxLen = 9223372036854775807 := rfl
    refine ⟨some a, cap, (List.range len).map fun r => .slice (A r) (M r) (C r), (List.range len).map fun r => (Z r).take (M r), by simp, ⟨⟨by simp, by simp; omega, fun j hj => ⟨a, rfl, ?_⟩⟩, fun i hi => ?_⟩⟩
    · have hj' : j < len := by simpa using hj
      rw [(hx j (by omega)).1]
      simp
    · have hi' : i < len := by simpa using hi
      obtain ⟨_, h1, h2, h3, h4, h5, h6⟩ := hx i (by omega)
      have e1 : gv ((List.range len).map fun r => Value.slice (A r) (M r) (C r)) i = .slice (A i) (M i) (C i) := by simp [gv, List.getD_eq_getElem?_getD, hi']
      have e2 : gl ((List.range len).map fun r => (Z r).take (M r)) i = (Z i).take (M i) := by simp [gl, List.getD_eq_getElem?_getD, hi']
      rw [e1, e2]
      have hle : ((Z i).take (M i)).length = M i := by rw [List.length_take]; omega
      refine ⟨⟨A i, C i, by rw [hle], h5, by omega, ⟨by simp, by omega, fun j hj => ?_⟩⟩, fun n hn => wf_u32 (h4 n (List.mem_of_mem_take hn))⟩
      have hj' : j < M i := by simp at hj; omega
      cases hA : A i with
      | none => have := h5 hA; omega
      | some a' =>
        refine ⟨a', rfl, ?_⟩
        rw [(h6 a' hA).2 j (by omega)]
        simp [nums, List.getD_eq_getElem?_getD, List.getElem?_eq_getElem (show j < (Z i).length by omega)]
end
theorem array4 {α : Type} {cs : Array α} (h : cs.size = 4) : ∃ c0 c1 c2 c3, cs = #[c0, c1, c2, c3] := by
  obtain ⟨l⟩ := cs
  match l, h with
  | [c0, c1, c2, c3], _ => exact ⟨c0, c1, c2, c3, rfl⟩
section
variable {H : Type} {enc : TypeId × Value → H} {W : World} {base : Nat} {held : Bool}
set_option maxRecDepth 100000 in
theorem open_cacheConf {sp : Nat → Bool} {r : Reach} {b0 : Nat} {v : Value} {d : DataW H} {p : List MemPlace} (hv : Value.okWide Tryz.prog W r b0 23 v) (h : DataW.Trod enc Tryz.prog W base sp held 23 v d p) :
    ∃ t h r : Int, v = .agg #[.int .i64 t, .int .i64 h, .int .i64 r] := by
  obtain ⟨v0, v1, v2, y0, y1, y2, n, rfl, _, _, h0, h1, h2⟩ := Joins.open_agg3 Tryz.underlying23 (by kernel_rfl) (by kernel_rfl) hv h
  obtain ⟨t, e0, _, _⟩ := DataW.trod_int Tryz.underlying3 h0
  obtain ⟨u, e1, _, _⟩ := DataW.trod_int Tryz.underlying3 h1
  obtain ⟨r, e2, _, _⟩ := DataW.trod_int Tryz.underlying3 h2
  obtain rfl : v0 = _ := List.singleton_inj.1 e0
  obtain rfl : v1 = _ := List.singleton_inj.1 e1
  obtain rfl : v2 = _ := List.singleton_inj.1 e2
  exact ⟨t, u, r, rfl⟩
set_option maxRecDepth 100000 in
theorem open_words {sp : Nat → Bool} {r : Reach} {b0 : Nat} {v : Value} {d : DataW H} {p : List MemPlace} (hv : Value.okWide Tryz.prog W r b0 28 v) (h : DataW.Trod enc Tryz.prog W base sp held 28 v d p) :
    ∃ A c xs, v = .slice A xs.length c ∧ RdI W .u32 A xs.length xs ∧ (A = none → c = 0) ∧ xs.length ≤ c ∧ ∀ n ∈ xs, (Lit.int .u32 n).wf = true := by
  obtain ⟨a, len, cap, rfl⟩ := okWide_slice Tryz.underlying28 hv
  obtain ⟨fuel, hf⟩ := h
  exact slice_rd Tryz.underlying28 Tryz.underlying27 (by kernel_rfl) hf
set_option maxRecDepth 100000 in
theorem open_cache {r : Reach} {b0 : Nat} {v : Value} {d : DataW H} {p : List MemPlace} (hv : Value.okWide Tryz.prog W r b0 26 v) (h : DataW.Trod enc Tryz.prog W base (fun _ => true) held 26 v d p) :
    ∃ (t h r : Int) (A : Option Addr) (c : Nat) (vs : List Value) (L : List (List Int)), v = .agg #[.int .i64 t, .int .i64 h, .int .i64 r, .slice A L.length c] ∧ RdSets W A vs L := by
  obtain ⟨cs, rfl, hsz⟩ := okWide_struct Tryz.underlying26 hv
  obtain ⟨c0, c1, c2, c3, rfl⟩ := array4 (hsz.trans (by kernel_rfl))
  obtain ⟨fuel, hf⟩ := h
  obtain ⟨xs, n, _, _, _, hlen, hfl⟩ := DataW.trod_struct Tryz.underlying26 hf
  have hlen' : xs.length = 2 := hlen
  have k1 : Tryz.prog.cellsOf 23 = 3 := by kernel_rfl
  have k2 : Tryz.prog.cellsOf 24 = 1 := by kernel_rfl
  have k3 : Tryz.prog.cellsOf 27 = 1 := by kernel_rfl
  have k4 : Tryz.prog.cellsOf 28 = 1 := by kernel_rfl
  have k5 : Tryz.prog.cellsOf 3 = 1 := by kernel_rfl
  obtain ⟨y0, e0⟩ := some_of (show 0 < xs.length by omega)
  obtain ⟨y1, e1⟩ := some_of (show 1 < xs.length by omega)
  have f0 : DataW.trod enc Tryz.prog W base (fun _ => true) held n 23 [c0, c1, c2] = some y0 := fld (off := 0) (cells := [c0, c1, c2, c3]) ((hfl 0 _ rfl).trans e0) k1 rfl
  have f1 : DataW.trod enc Tryz.prog W base (fun _ => true) held n 24 [c3] = some y1 := fld (off := 3) (cells := [c0, c1, c2, c3]) ((hfl 1 _ rfl).trans e1) k2 rfl
  obtain ⟨zs, n', _, _, _, zlen, zfl⟩ := DataW.trod_struct Tryz.underlying23 f0
  have zlen' : zs.length = 3 := zlen
  obtain ⟨z0, g0⟩ := some_of (show 0 < zs.length by omega)
  obtain ⟨z1, g1⟩ := some_of (show 1 < zs.length by omega)
  obtain ⟨z2, g2⟩ := some_of (show 2 < zs.length by omega)
  have j0 : DataW.trod enc Tryz.prog W base (fun _ => true) held n' 3 [c0] = some z0 := fld (off := 0) (cells := [c0, c1, c2]) ((zfl 0 _ rfl).trans g0) k5 rfl
  have j1 : DataW.trod enc Tryz.prog W base (fun _ => true) held n' 3 [c1] = some z1 := fld (off := 1) (cells := [c0, c1, c2]) ((zfl 1 _ rfl).trans g1) k5 rfl
  have j2 : DataW.trod enc Tryz.prog W base (fun _ => true) held n' 3 [c2] = some z2 := fld (off := 2) (cells := [c0, c1, c2]) ((zfl 2 _ rfl).trans g2) k5 rfl
  obtain ⟨t, q0, _, _⟩ := DataW.trod_int Tryz.underlying3 j0
  obtain ⟨u, q1, _, _⟩ := DataW.trod_int Tryz.underlying3 j1
  obtain ⟨r, q2, _, _⟩ := DataW.trod_int Tryz.underlying3 j2
  obtain rfl : c0 = _ := List.singleton_inj.1 q0
  obtain rfl : c1 = _ := List.singleton_inj.1 q1
  obtain rfl : c2 = _ := List.singleton_inj.1 q2
  obtain ⟨A, c, vs, L, rfl, hR⟩ := rows_rd Tryz.underlying24 Tryz.underlying28 Tryz.underlying27 k4 k3 f1
  exact ⟨t, u, r, A, c, vs, L, rfl, hR⟩
end
end Go.Proofs.YtdkacdfhapgboaaGreat

/- SimCaches: the law. -/
set_option linter.unusedVariables false
set_option linter.unusedSimpArgs false
namespace Go.Proofs.YtdkacdfhapgboaaGreat
open Go.RowKit

attribute [local irreducible] World.setCell in
set_option maxRecDepth 100000 in
set_option maxHeartbeats 4000000 in
theorem caches_any (sl ss sw : Int) (line sets ways : Int) (A : Option Addr) (c : Nat) (vs : List Value) (L : List (List Int)) (at_ cnt : Int) (B : Option Addr) (m bc : Nat) (l : List Int) (w : World) (H : RdSets w A vs L) (ha : 0 ≤ at_ ∧ at_ < 4294967296) (hl : RdI w .u32 B m l) (hm : l.length = m) (hu : ∀ x ∈ l, 0 ≤ x ∧ x < 4294967296) :
    Calls Tryz.prog 3 #[.agg #[.int .i64 sl, .int .i64 ss, .int .i64 sw], .agg #[.int .i64 line, .int .i64 sets, .int .i64 ways, .slice A L.length c], .int .u32 at_, .int .i64 cnt, .slice B m bc] w fun e w' => e = .returned (.bool true) ∧ Below w.heap.size w w' := by
  obtain ⟨W0, hW0⟩ : ∃ W0, (w.alloc (.cells #[.int .i64 sl, .int .i64 ss, .int .i64 sw] 23)).alloc (.cells #[.int .i64 line, .int .i64 sets, .int .i64 ways, .slice A L.length c] 26) = W0 := ⟨_, rfl⟩
  have hb0 : Below w.heap.size w W0 := by rw [← hW0]; exact ((Below.refl _ _).alloc (Nat.le_refl _) _).alloc (by simp) _
  have hx0 : W0.heap[w.heap.size]? = some (.cells #[.int .i64 sl, .int .i64 ss, .int .i64 sw] 23 (0, 0)) := by rw [← hW0]; exact (heap_alloc_old _ _ (by simp)).trans (heap_alloc_new w _)
  have hx1 : W0.heap[w.heap.size + 1]? = some (.cells #[.int .i64 line, .int .i64 sets, .int .i64 ways, .slice A L.length c] 26 (0, 0)) := by rw [← hW0]; exact alloc_at _ _ _ (by simp)
  have HB0 := Lib.hid hb0
  have HX0 := Lib.hid hx0
  have HX1 := Lib.hid hx1
  have HR := Lib.hid (H.below hb0)
  have HL := Lib.hid (Rd.below hl hb0)
  have HM := Lib.hid hm
  have HU := Lib.hid hu
  have hsm := small_any line sets ways A L.length c vs L W0 (H.below hb0) rfl
  obtain ⟨c0, c1, c2, c3, _⟩ := box4 hx1
  have d0 := boxAt (i := 0) hx0 rfl
  have d1 := boxAt (i := 1) hx0 rfl
  have d2 := boxAt (i := 2) hx0 rfl
  have hle := hl.le
  clear hb0 hx0 hx1 H hl hm hu
  have hgate : (smallB sets L = false ∧ True) ∨ (smallB sets L = true ∧ (300 : Int) < (m : Int)) ∨ (smallB sets L = true ∧ (m : Int) ≤ 300 ∧ 64 < ss ∧ ss ≤ 1024) ∨ (smallB sets L = true ∧ (m : Int) ≤ 300 ∧ ((¬ 64 < ss ∧ True) ∨ (64 < ss ∧ ¬ ss ≤ 1024))) := by
    cases smallB sets L
    · exact .inl ⟨rfl, trivial⟩
    · by_cases h3 : (300 : Int) < (m : Int)
      · exact .inr (.inl ⟨rfl, h3⟩)
      · by_cases h8 : 64 < ss
        · by_cases h12 : ss ≤ 1024
          · exact .inr (.inr (.inl ⟨rfl, by omega, h8, h12⟩))
          · exact .inr (.inr (.inr ⟨rfl, by omega, .inr ⟨h8, h12⟩⟩))
        · exact .inr (.inr (.inr ⟨rfl, by omega, .inl ⟨h8, trivial⟩⟩))
  rcases hgate with ⟨hg, _⟩ | ⟨hg, g3⟩ | ⟨hg, g3, g8, g12⟩ | ⟨hg, g3, hg2⟩
  · rw [hg] at hsm
    have HSM := Lib.hid hsm
    clear hsm hg
    go_enter Tryz.func3, Tryz.ntmps3
    go_wp2_with fail
    refine HSM.out.mono ?_
    rintro e W1 ⟨rfl, hb1⟩
    go_wp2_with fail
    refine (sane_any _).mono ?_
    rintro e W2 ⟨rfl, hb2⟩
    go_wp2
    go_ret
    exact ⟨rfl, HB0.out.trans ((hb1.trans (hb2.mono hb1.size)).mono HB0.out.size)⟩
  · rw [hg] at hsm
    have HSM := Lib.hid hsm
    clear hsm hg
    have g3d : decide ((300 : Int) < (m : Int)) = true := decide_eq_true g3
    go_enter Tryz.func3, Tryz.ntmps3
    go_wp2_with fail
    refine HSM.out.mono ?_
    rintro e W1 ⟨rfl, hb1⟩
    go_wp2_with fail
    refine (sane_any _).mono ?_
    rintro e W2 ⟨rfl, hb2⟩
    go_wp2
    go_ret
    exact ⟨rfl, HB0.out.trans ((hb1.trans (hb2.mono hb1.size)).mono HB0.out.size)⟩
  · rw [hg] at hsm
    have HSM := Lib.hid hsm
    clear hsm hg
    go_enter Tryz.func3, Tryz.ntmps3
    go_wp2_with fail
    refine HSM.out.mono ?_
    rintro e W1 ⟨rfl, hb1⟩
    have x1 := bkeep hb1 d1
    go_wp2_with fail
    refine (sane_any _).mono ?_
    rintro e W2 ⟨rfl, hb2⟩
    go_wp2
    go_ret
    exact ⟨rfl, HB0.out.trans ((hb1.trans (hb2.mono hb1.size)).mono HB0.out.size)⟩
  · rw [hg] at hsm
    have HSM := Lib.hid hsm
    have HSB := Lib.hid (smallB_true hg)
    clear hsm hg
    obtain ⟨pa, pb, pd, M, O, er, hp⟩ : ∃ a b d M O er, newL sl ss sw = ⟨a, b, d, M, O, er⟩ := ⟨_, _, _, _, _, _, rfl⟩
    obtain ⟨n, hn⟩ : ∃ n, M.length = n := ⟨_, rfl⟩
    have hN1 : ∀ W, Calls Tryz.prog 8 #[.agg #[.int .i64 sl, .int .i64 ss, .int .i64 sw]] W fun e w' => Below W.heap.size W w' ∧ ∃ A c vs, e = .returned (.tuple #[.agg #[.int .i64 pa, .int .i64 pb, .int .i64 pd, .slice A n c], .int .i64 er]) ∧ RdSets w' A vs M := fun W =>
      (sNew_any sl ss sw W).mono fun e w' ⟨hb, ex⟩ => by rw [hp] at ex; rw [← hn]; exact ⟨hb, ex⟩
    have hN2 : ∀ W, Calls Tryz.prog 9 #[.agg #[.int .i64 sl, .int .i64 ss, .int .i64 sw]] W fun e w' => Below W.heap.size W w' ∧ ∃ A c vs, e = .returned (.tuple #[.agg #[.int .i64 pa, .int .i64 pb, .int .i64 pd, .slice A n c], .int .i64 er]) ∧ RdSets w' A vs M := fun W =>
      (rNew_any sl ss sw W).mono fun e w' ⟨hb, ex⟩ => by rw [hp] at ex; rw [← hn]; exact ⟨hb, ex⟩
    obtain ⟨es, hes⟩ : ∃ es : Int, (if shapeB sl ss sw = true then 0 else 330) = es := ⟨_, rfl⟩
    have hS1 : ∀ W, Calls Tryz.prog 10 #[.agg #[.int .i64 sl, .int .i64 ss, .int .i64 sw]] W fun e w' => e = .returned (.int .i64 es) ∧ Below W.heap.size W w' := fun W => by
      rw [← hes]; exact checkShape_any sl ss sw W
    have hS2 : ∀ W, Calls Tryz.prog 11 #[.agg #[.int .i64 sl, .int .i64 ss, .int .i64 sw]] W fun e w' => e = .returned (.int .i64 es) ∧ Below W.heap.size W w' := fun W => by
      rw [← hes]; exact rcheckShape_any sl ss sw W
    obtain ⟨ec, hec⟩ : ∃ ec : Int, (if cacheOk line sets ways L then 0 else 330) = ec := ⟨_, rfl⟩
    have hC1 : ∀ W, RdSets W A vs L → Calls Tryz.prog 13 #[.agg #[.int .i64 line, .int .i64 sets, .int .i64 ways, .slice A L.length c]] W fun e w' => e = .returned (.int .i64 ec) ∧ Below W.heap.size W w' := fun W h => by
      rw [← hec]; exact checkCache_any line sets ways A c vs L W h
    have hC2 : ∀ W, RdSets W A vs L → Calls Tryz.prog 14 #[.agg #[.int .i64 line, .int .i64 sets, .int .i64 ways, .slice A L.length c]] W fun e w' => e = .returned (.int .i64 ec) ∧ Below W.heap.size W w' := fun W h => by
      rw [← hec]; exact rCheckCache_any line sets ways A c vs L W h
    obtain ⟨qa, qb, qd, N, P, eq, hq⟩ : ∃ a b d M O er, accL line sets ways L at_ cnt = ⟨a, b, d, M, O, er⟩ := ⟨_, _, _, _, _, _, rfl⟩
    obtain ⟨nN, hnN⟩ : ∃ n, N.length = n := ⟨_, rfl⟩
    obtain ⟨nP, hnP⟩ : ∃ n, P.length = n := ⟨_, rfl⟩
    have hA1 : ∀ W A c vs, RdSets W A vs L → (A = none → c = 0) → Calls Tryz.prog 16 #[.agg #[.int .i64 line, .int .i64 sets, .int .i64 ways, .slice A L.length c], .int .u32 at_, .int .i64 cnt] W fun e w' => Below W.heap.size W w' ∧ ∃ A c vs Q qc, e = .returned (.tuple #[.agg #[.int .i64 qa, .int .i64 qb, .int .i64 qd, .slice A nN c], .slice Q nP qc, .int .i64 eq]) ∧ RdSets w' A vs N ∧ RdI w' .u32 Q nP P := fun W A c vs h h0 =>
      (sAcc_any line sets ways A c vs L at_ cnt W h h0 ha).mono fun e w' ⟨hb, ex⟩ => by rw [hq] at ex; rw [← hnN, ← hnP]; exact ⟨hb, ex⟩
    have hA2 : ∀ W, RdSets W A vs L → Calls Tryz.prog 17 #[.agg #[.int .i64 line, .int .i64 sets, .int .i64 ways, .slice A L.length c], .int .u32 at_, .int .i64 cnt] W fun e w' => Below W.heap.size W w' ∧ ∃ A c vs Q qc, e = .returned (.tuple #[.agg #[.int .i64 qa, .int .i64 qb, .int .i64 qd, .slice A nN c], .slice Q nP qc, .int .i64 eq]) ∧ RdSets w' A vs N ∧ RdI w' .u32 Q nP P := fun W h =>
      (rAcc_any line sets ways A c vs L at_ cnt W h ha).mono fun e w' ⟨hb, ex⟩ => by rw [hq] at ex; rw [← hnN, ← hnP]; exact ⟨hb, ex⟩
    obtain ⟨bs, ef, hrp⟩ : ∃ bs ef, repB sl ss sw l = (bs, ef) := ⟨_, _, rfl⟩
    obtain ⟨nb, hnb⟩ : ∃ n, bs.length = n := ⟨_, rfl⟩
    have hR1 : ∀ W, RdI W .u32 B m l → Calls Tryz.prog 19 #[.agg #[.int .i64 sl, .int .i64 ss, .int .i64 sw], .slice B m bc] W fun e w' => Below W.heap.size W w' ∧ ∃ Q qc, e = .returned (.tuple #[.slice Q nb qc, .int .i64 ef]) ∧ RdB w' Q nb bs := fun W h =>
      (sRep_any sl ss sw B bc m l W h HM.out (by omega) HU.out).mono fun e w' ⟨hb, ex⟩ => by rw [hrp] at ex; rw [← hnb]; exact ⟨hb, ex⟩
    have hR2 : ∀ W, RdI W .u32 B m l → Calls Tryz.prog 20 #[.agg #[.int .i64 sl, .int .i64 ss, .int .i64 sw], .slice B m bc] W fun e w' => Below W.heap.size W w' ∧ ∃ Q qc, e = .returned (.tuple #[.slice Q nb qc, .int .i64 ef]) ∧ RdB w' Q nb bs := fun W h =>
      (rRep_any sl ss sw B bc m l W h HM.out (by omega) HU.out).mono fun e w' ⟨hb, ex⟩ => by rw [hrp] at ex; rw [← hnb]; exact ⟨hb, ex⟩
    have HA1 := Lib.hid hA1
    have HA2 := Lib.hid hA2
    have HR1 := Lib.hid hR1
    have HR2 := Lib.hid hR2
    have HNN := Lib.hid hnN
    have b4 : (eq != eq) = false := by simp
    have b5 : (ef == ef) = true := by simp
    clear hA1 hA2 hR1 hR2 hq hrp hnN hnP hnb
    have HN := Lib.hid hn
    have HN1 := Lib.hid hN1
    have HN2 := Lib.hid hN2
    have HS1 := Lib.hid hS1
    have HS2 := Lib.hid hS2
    have HC1 := Lib.hid hC1
    have HC2 := Lib.hid hC2
    have b1 : (es != es) = false := by simp
    have b2 : (ec != ec) = false := by simp
    have b3 : (er != er) = false := by simp
    clear hp hN1 hN2 hS1 hS2 hC1 hC2 hes hec hn
    go_enter Tryz.func3, Tryz.ntmps3
    go_wp2_with fail
    refine HSM.out.mono ?_
    rintro e W1 ⟨rfl, hb1⟩
    have x1 := bkeep hb1 d1
    have y0 := bkeep hb1 d0
    have y2 := bkeep hb1 d2
    have HB1 := Lib.hid hb1
    clear hb1
    go_wp2_with fail
    all_goals
      refine (HN1.out _).mono ?_
      rintro e W2 ⟨hb2, A1, c1, vs1, rfl, hr1⟩
      obtain ⟨V2, hV2⟩ : ∃ V, W2.alloc (.cells #[.int .i64 pa, .int .i64 pb, .int .i64 pd, .slice A1 n c1] 26) = V := ⟨_, rfl⟩
      have hv2 : Below W2.heap.size W2 V2 := by rw [← hV2]; exact balloc _ _
      have hx2 : V2.heap[W2.heap.size]? = some (.cells #[.int .i64 pa, .int .i64 pb, .int .i64 pd, .slice A1 n c1] 26 (0, 0)) := by rw [← hV2]; exact heap_alloc_new _ _
      have hb12 : Below W1.heap.size W1 V2 := hb2.trans (hv2.mono hb2.size)
      have z0 := bkeep hb12 y0
      have z1 := bkeep hb12 x1
      have z2 := bkeep hb12 y2
      have HRA := Lib.hid (hr1.below hv2)
      have HXA := Lib.hid hx2
      have HB2 := Lib.hid hb12
      clear hb2 hr1 hv2 hx2 hb12
      go_wp2_with fail
      refine (HN2.out _).mono ?_
      rintro e W3 ⟨hb3, A2, c2, vs2, rfl, hr2⟩
      obtain ⟨V3, hV3⟩ : ∃ V, W3.alloc (.cells #[.int .i64 pa, .int .i64 pb, .int .i64 pd, .slice A2 n c2] 26) = V := ⟨_, rfl⟩
      have hv3 : Below W3.heap.size W3 V3 := by rw [← hV3]; exact balloc _ _
      have hx3 : V3.heap[W3.heap.size]? = some (.cells #[.int .i64 pa, .int .i64 pb, .int .i64 pd, .slice A2 n c2] 26 (0, 0)) := by rw [← hV3]; exact heap_alloc_new _ _
      have hb23 : Below V2.heap.size V2 V3 := hb3.trans (hv3.mono hb3.size)
      have hb03 : Below W0.heap.size W0 V3 := HB1.out.trans ((HB2.out.trans (hb23.mono HB2.out.size)).mono HB1.out.size)
      have z0 := bkeep hb23 z0
      have z1 := bkeep hb23 z1
      have z2 := bkeep hb23 z2
      have hxa := belowBox hb23 HXA.out
      have hxc := belowBox hb03 HX1.out
      obtain ⟨a0, a1, a2, a3, _⟩ := box4 hxa
      obtain ⟨b0, b1', b2', b3', _⟩ := box4 hx3
      obtain ⟨e0, e1, e2, e3, _⟩ := box4 hxc
      have HXC := Lib.hid hxc
      have HRC := Lib.hid (HR.out.below hb03)
      have HQS := Lib.hid (show ∀ q : After V3.heap.size V3, Calls Tryz.prog 12 #[.agg #[.int .i64 pa, .int .i64 pb, .int .i64 pd, .slice A1 n c1], .agg #[.int .i64 pa, .int .i64 pb, .int .i64 pd, .slice A2 n c2]] q.W fun e w' => e = .returned (.bool true) ∧ Below q.W.heap.size q.W w' from fun q =>
        sameCacheG pa pb pd A1 A2 n c1 c2 vs1 vs2 M q.W ((HRA.out.below hb23).below q.below) ((hr2.below hv3).below q.below) HN.out)
      have HQC1 := Lib.hid (show ∀ q : After V3.heap.size V3, Calls Tryz.prog 13 #[.agg #[.int .i64 line, .int .i64 sets, .int .i64 ways, .slice A L.length c]] q.W fun e w' => e = .returned (.int .i64 ec) ∧ Below q.W.heap.size q.W w' from fun q => HC1.out _ (HRC.out.below q.below))
      have HQC2 := Lib.hid (show ∀ q : After V3.heap.size V3, Calls Tryz.prog 14 #[.agg #[.int .i64 line, .int .i64 sets, .int .i64 ways, .slice A L.length c]] q.W fun e w' => e = .returned (.int .i64 ec) ∧ Below q.W.heap.size q.W w' from fun q => HC2.out _ (HRC.out.below q.below))
      have HB3 := Lib.hid hb03
      clear hb3 hr2 hv3 hx3 hb23 hb03 hxa hxc
      go_wp2_with fail
      have f0 := After.cell z0
      have f1 := After.cell z1
      have f2 := After.cell z2
      have f3 := After.cell a0
      have f4 := After.cell a1
      have f5 := After.cell a2
      have f6 := After.cell a3
      have f7 := After.cell b0
      have f8 := After.cell b1'
      have f9 := After.cell b2'
      have f10 := After.cell b3'
      have f11 := After.cell e0
      have f12 := After.cell e1
      have f13 := After.cell e2
      have f14 := After.cell e3
      refine region_after (Below.refl V3.heap.size V3) (by kernel_rfl) (by kernel_rfl) ?_
      repeat (go_big_quiet_step (first
        | (go_at_call 7; exact calls_after (Nat.le_refl _) (sane_any _))
        | (go_at_call 10; exact calls_after (Nat.le_refl _) (HS1.out _))
        | (go_at_call 11; exact calls_after (Nat.le_refl _) (HS2.out _))
        | (go_at_call 12; exact calls_after (Nat.le_refl _) (HQS.out _))
        | (go_at_call 13; exact calls_after (Nat.le_refl _) (HQC1.out _))
        | (go_at_call 14; exact calls_after (Nat.le_refl _) (HQC2.out _))))
      refine wpQuiet_nil ?_
      intro _ hw'
      obtain ⟨nq, hw''⟩ := hw'
      subst hw''
      clear f0 f1 f2 f3 f4 f5 f6 f7 f8 f9 f10 f11 f12 f13 f14 a0 a1 a2 a3 b0 b1' b2' b3' z0 z1 z2 e0 e1 e2 e3
      obtain ⟨e0, e1, e2, e3, _⟩ := box4 (belowBox nq.below HXC.out)
      go_wp2_with fail
      refine (rcopied_any line sets ways A L.length c vs L nq.W (HRC.out.below nq.below) rfl (by have := HSB.out.1; omega) (fun i hi => by have := HSB.out.2.1 i hi; omega)).mono ?_
      rintro e W4 ⟨⟨A4, c4, vs4, rfl, hr4, hn4, _⟩, hb4⟩
      obtain ⟨V4, hV4⟩ : ∃ V, W4.alloc (.cells #[.int .i64 line, .int .i64 sets, .int .i64 ways, .slice A4 L.length c4] 26) = V := ⟨_, rfl⟩
      have hv4 : Below W4.heap.size W4 V4 := by rw [← hV4]; exact balloc _ _
      have hx4 : V4.heap[W4.heap.size]? = some (.cells #[.int .i64 line, .int .i64 sets, .int .i64 ways, .slice A4 L.length c4] 26 (0, 0)) := by rw [← hV4]; exact heap_alloc_new _ _
      have HB4 := Lib.hid (nq.below.trans ((hb4.trans (hv4.mono hb4.size)).mono nq.below.size))
      have HX4 := Lib.hid hx4
      have HR4 := Lib.hid (hr4.below hv4)
      have HN4 := Lib.hid hn4
      obtain ⟨m0, m1, m2, m3, _⟩ := box4 hx4
      clear hb4 hv4 hx4 hr4 hn4 e0 e1 e2 e3
      go_wp2_with fail
      refine (HA1.out _ A4 c4 vs4 HR4.out HN4.out).mono ?_
      rintro e W5 ⟨hb5, A5, c5, vs5, Q5, q5, rfl, hr5, ho5⟩
      obtain ⟨V5, hV5⟩ : ∃ V, W5.alloc (.cells #[.int .i64 qa, .int .i64 qb, .int .i64 qd, .slice A5 nN c5] 26) = V := ⟨_, rfl⟩
      have hv5 : Below W5.heap.size W5 V5 := by rw [← hV5]; exact balloc _ _
      have hx5 : V5.heap[W5.heap.size]? = some (.cells #[.int .i64 qa, .int .i64 qb, .int .i64 qd, .slice A5 nN c5] 26 (0, 0)) := by rw [← hV5]; exact heap_alloc_new _ _
      have hb45 : Below V4.heap.size V4 V5 := hb5.trans (hv5.mono hb5.size)
      have HB45 := Lib.hid hb45
      have HB35 := Lib.hid (HB4.out.trans (hb45.mono HB4.out.size))
      have HX5 := Lib.hid hx5
      have HR5 := Lib.hid (hr5.below hv5)
      have HO5 := Lib.hid (Rd.below ho5 hv5)
      obtain ⟨e0, e1, e2, e3, _⟩ := box4 (belowBox HB35.out HXC.out)
      clear hb5 hv5 hx5 hr5 ho5 hb45 m0 m1 m2 m3
      go_wp2_with fail
      refine (HA2.out _ (HRC.out.below HB35.out)).mono ?_
      rintro e W6 ⟨hb6, A6, c6, vs6, Q6, q6, rfl, hr6, ho6⟩
      obtain ⟨V6, hV6⟩ : ∃ V, W6.alloc (.cells #[.int .i64 qa, .int .i64 qb, .int .i64 qd, .slice A6 nN c6] 26) = V := ⟨_, rfl⟩
      have hv6 : Below W6.heap.size W6 V6 := by rw [← hV6]; exact balloc _ _
      have hx6 : V6.heap[W6.heap.size]? = some (.cells #[.int .i64 qa, .int .i64 qb, .int .i64 qd, .slice A6 nN c6] 26 (0, 0)) := by rw [← hV6]; exact heap_alloc_new _ _
      have hb56 : Below V5.heap.size V5 V6 := hb6.trans (hv6.mono hb6.size)
      have hb46 : Below V4.heap.size V4 V6 := HB45.out.trans (hb56.mono HB45.out.size)
      have hb36 : Below V3.heap.size V3 V6 := HB4.out.trans (hb46.mono HB4.out.size)
      obtain ⟨a0, a1, a2, a3, _⟩ := box4 (belowBox hb56 HX5.out)
      obtain ⟨b0, b1', b2', b3', _⟩ := box4 hx6
      obtain ⟨m0, m1, m2, m3, _⟩ := box4 (belowBox hb46 HX4.out)
      obtain ⟨e0, e1, e2, e3, _⟩ := box4 (belowBox hb36 HXC.out)
      have HQ1 := Lib.hid (show ∀ W, Below V6.heap.size V6 W → Calls Tryz.prog 12 #[.agg #[.int .i64 qa, .int .i64 qb, .int .i64 qd, .slice A5 nN c5], .agg #[.int .i64 qa, .int .i64 qb, .int .i64 qd, .slice A6 nN c6]] W fun e w' => e = .returned (.bool true) ∧ Below W.heap.size W w' from fun W hbW =>
        sameCacheG qa qb qd A5 A6 nN c5 c6 vs5 vs6 N W ((HR5.out.below hb56).below hbW) ((hr6.below hv6).below hbW) HNN.out)
      have HQ2 := Lib.hid (show ∀ W, Below V6.heap.size V6 W → Calls Tryz.prog 12 #[.agg #[.int .i64 line, .int .i64 sets, .int .i64 ways, .slice A4 L.length c4], .agg #[.int .i64 line, .int .i64 sets, .int .i64 ways, .slice A L.length c]] W fun e w' => e = .returned (.bool true) ∧ Below W.heap.size W w' from fun W hbW =>
        sameCacheG line sets ways A4 A L.length c4 c vs4 vs L W ((HR4.out.below hb46).below hbW) ((HRC.out.below hb36).below hbW) rfl)
      have HQ3 := Lib.hid (show ∀ W, Below V6.heap.size V6 W → Calls Tryz.prog 18 #[.slice Q5 nP q5, .slice Q6 nP q6] W fun e w' => e = .returned (.bool true) ∧ Below W.heap.size W w' from fun W hbW =>
        sameWords_true Q5 Q6 nP q5 q6 P W (Rd.below (Rd.below HO5.out hb56) hbW) (Rd.below (Rd.below ho6 hv6) hbW))
      have hb06 : Below W0.heap.size W0 V6 := HB3.out.trans (hb36.mono HB3.out.size)
      have HB6 := Lib.hid hb06
      clear hb6 hv6 hx6 hr6 ho6 hb56 hb46 hb36 hb06
      go_wp2_with fail
      refine (HQ1.out _ (Below.refl _ _)).mono ?_
      rintro e R1 ⟨rfl, hbr1⟩
      have m0 := bkeep hbr1 m0
      have m1 := bkeep hbr1 m1
      have m2 := bkeep hbr1 m2
      have m3 := bkeep hbr1 m3
      have e0 := bkeep hbr1 e0
      have e1 := bkeep hbr1 e1
      have e2 := bkeep hbr1 e2
      have e3 := bkeep hbr1 e3
      have HBR1 := Lib.hid hbr1
      clear hbr1
      go_wp2_with fail
      refine (HQ3.out _ HBR1.out).mono ?_
      rintro e R2 ⟨rfl, hbr2⟩
      have m0 := bkeep hbr2 m0
      have m1 := bkeep hbr2 m1
      have m2 := bkeep hbr2 m2
      have m3 := bkeep hbr2 m3
      have e0 := bkeep hbr2 e0
      have e1 := bkeep hbr2 e1
      have e2 := bkeep hbr2 e2
      have e3 := bkeep hbr2 e3
      have HBR2 := Lib.hid (HBR1.out.trans (hbr2.mono HBR1.out.size))
      clear hbr2
      go_wp2_with fail
      refine (HQ2.out _ HBR2.out).mono ?_
      rintro e R3 ⟨rfl, hbr3⟩
      have hbr := HBR2.out.trans (hbr3.mono HBR2.out.size)
      have hb0r := HB6.out.trans (hbr.mono HB6.out.size)
      have z0 := bkeep hb0r d0
      have z1 := bkeep hb0r d1
      have z2 := bkeep hb0r d2
      have HBR := Lib.hid hb0r
      clear hb0r hbr hbr3 a0 a1 a2 a3 b0 b1' b2' b3' m0 m1 m2 m3 e0 e1 e2 e3
      go_wp2_with fail
      refine (HR1.out _ (Rd.below HL.out HBR.out)).mono ?_
      rintro e W7 ⟨hb7, G7, g7, rfl, hg7⟩
      have hb07 := HBR.out.trans (hb7.mono HBR.out.size)
      have z0 := bkeep hb7 z0
      have z1 := bkeep hb7 z1
      have z2 := bkeep hb7 z2
      have HB7 := Lib.hid hb07
      have HG7 := Lib.hid hg7
      clear hb7 hb07 hg7
      go_wp2_with fail
      refine (HR2.out _ (Rd.below HL.out HB7.out)).mono ?_
      rintro e W8 ⟨hb8, G8, g8', rfl, hg8⟩
      have hb08 := HB7.out.trans (hb8.mono HB7.out.size)
      have HEQ := Lib.hid (show Calls Tryz.prog 21 #[.slice G7 nb g7, .slice G8 nb g8'] W8 fun e w' => e = .returned (.bool true) ∧ Below W8.heap.size W8 w' by
        have := equal_bool G7 G8 nb g7 nb g8' bs bs W8 (Rd.below HG7.out hb8) hg8
        rw [decide_eq_true rfl] at this
        exact this)
      have HB8 := Lib.hid hb08
      clear hb8 hb08 hg8
      go_wp2_with fail
      refine HEQ.out.mono ?_
      rintro e W9 ⟨rfl, hb9⟩
      go_wp2
      go_ret
      exact ⟨rfl, HB0.out.trans ((HB8.out.trans (hb9.mono HB8.out.size)).mono HB0.out.size)⟩
end Go.Proofs.YtdkacdfhapgboaaGreat
