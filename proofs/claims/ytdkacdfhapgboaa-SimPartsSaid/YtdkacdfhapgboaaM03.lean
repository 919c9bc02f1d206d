/- Part 3 of the texts that the proof stands on: Tcr, Prd, SimS, New, Nums, NumsI, SimT, Lru, Mem. -/
import Derived.Test.YtdkacdfhapgboaaM02
import Derived.Deep.RegionHeld3
import Derived.StillTailTactics
import Derived.BigQuiet

/- sim.Train, Call, Return, CheckPred. (printed by gen/tcr.py) -/
set_option linter.unusedVariables false
set_option linter.unusedSimpArgs false
namespace Go.Proofs.Ytdkacdfhapgboaa
open Go.RowKit

/-- The counters behind a branch. -/
def trainCs (cs : List Int) (pc hist : Int) (taken : Bool) : List Int := cs.set (ctrI pc hist cs.length).toNat (trainC (gi cs (ctrI pc hist cs.length).toNat) taken)
theorem predOk_cs {t h r hist : Int} {cs rs : List Int} (hq : predOk t h r cs hist rs) : ∀ x ∈ cs, 0 ≤ x ∧ x ≤ 3 := by
  intro x hx
  have h1 := hq.2.2.1
  have h2 := List.any_eq_false.1 h1 x hx
  simp [badN] at h2
  omega
/-- What a changed predictor is. -/
def PredIs (w : World) (e : Value) (t h r : Int) (cs : List Int) (hist : Int) (rs : List Int) (w' : World) : Prop :=
  ∃ g c v, e = .agg #[.int .i64 t, .int .i64 h, .int .i64 r, .slice (some ⟨g, 0, none⟩) cs.length c, .int .u32 hist, v] ∧
    w'.ownsRow w.heap.size 3 1 (.slice (some ⟨g, 0, none⟩) cs.length c) cs.length (nums .i64 cs) ∧ OwnW w' w.heap.size 30 v (nums .u32 rs) ∧ blk v ≠ some g

theorem train1_any (z1 z2 : Addr) (B b : Nat) (t r : Int) (h : Nat) (g c : Nat) (cs : List Int) (hist : Int) (v : Value) (rs : List Int) (pc : Int) (taken : Bool) (w : World) (H : OwnP w B b t h r g c cs hist v rs)
    (hh : h ≤ 12) (hn : 1 ≤ cs.length) (hp : 0 ≤ pc ∧ pc < 4294967296) (hi : 0 ≤ hist ∧ hist < 4294967296) (hcs : ∀ x ∈ cs, 0 ≤ x ∧ x ≤ 3) (h1 : w.cell? z1 = some (.int .u32 pc)) (h2 : w.cell? z2 = some (.bool taken)) :
    Calls Try.prog 49 #[.pointer (some ⟨b, 0, none⟩), .pointer (some z1), .pointer (some z2)] w fun e w' =>
      e = .returned (.tuple #[]) ∧ OwnP w' B b t h r g c (trainCs cs pc hist taken) (trainH h hist taken) v rs ∧ Upd (fun k => k = b ∨ k = g) w w' := by
  have HH := Lib.hid H
  clear H
  go_enter Try.func49, Try.ntmps49
  go_wp2_with fail
  refine (train_any B b t r h g c cs hist v rs pc taken _ HH.out hh hn hp hi hcs).mono ?_
  rintro e W ⟨rfl, hP, hu⟩
  go_wp2
  go_end0
  exact ⟨rfl, by unfold trainCs; exact hP, hu⟩
theorem call1_any (z1 : Addr) (B b : Nat) (t h r : Int) (g c : Nat) (cs : List Int) (hist : Int) (v : Value) (rs : List Int) (a : Int) (w : World) (H : OwnP w B b t h r g c cs hist v rs) (hB : B ≤ w.heap.size) (hl : rs.length ≤ 1000) (h1 : w.cell? z1 = some (.int .u32 a)) :
    Calls Try.prog 51 #[.pointer (some ⟨b, 0, none⟩), .pointer (some z1)] w fun e w' => e = .returned (.tuple #[]) ∧ ∃ v', OwnP w' B b t h r g c cs hist v' (callL r rs a) ∧ Upd (fun k => k = b ∨ blk v = some k) w w' := by
  have HH := Lib.hid H
  clear H
  go_enter Try.func51, Try.ntmps51
  go_wp2_with fail
  refine (call_any B b t h r g c cs hist v rs a _ HH.out hB hl).mono ?_
  rintro e W ⟨rfl, hP⟩
  go_wp2
  go_end0
  exact ⟨rfl, hP⟩
theorem OwnP.setOut {W : World} {B b : Nat} {t h r : Int} {g c : Nat} {cs : List Int} {hist : Int} {v : Value} {rs : List Int} (H : OwnP W B b t h r g c cs hist v rs) (z : Nat) (o : Nat) (u : Value) (hz : z < B) : OwnP (W.setCell ⟨z, o, none⟩ u) B b t h r g c cs hist v rs := by
  have hu : Upd (fun k => k = z) W (W.setCell ⟨z, o, none⟩ u) := Upd.setCell W ⟨z, o, none⟩ u
  have hge := H.ge
  refine ⟨?_, own_upd H.cnt hu fun k hk e => ?_, H.ret.upd hu fun k hk e => ?_, H.ge⟩
  · rw [hu.block b (Array.getElem?_eq_some_iff.1 H.box).1 (by omega)]; exact H.box
  · have := (H.cnt.lt k hk).1; omega
  · have := (H.ret.lt k hk).1; omega
attribute [local irreducible] World.setCell in
theorem ret1_any (z1 : Addr) (z : Nat) (x0 : Bool) (B b : Nat) (t h r : Int) (g c : Nat) (cs : List Int) (hist : Int) (v : Value) (rs : List Int) (a : Int) (w : World) (H : OwnP w B b t h r g c cs hist v rs) (hl : rs.length ≤ 1000) (h1 : w.cell? z1 = some (.int .u32 a))
    (hz : z < B) (hx : w.heap[z]? = some (.cells #[.bool x0] 4 (0, 0))) :
    Calls Try.prog 53 #[.pointer (some ⟨b, 0, none⟩), .pointer (some z1), .pointer (some ⟨z, 0, none⟩)] w fun e w' => e = .returned (.tuple #[]) ∧ w'.heap[z]? = some (.cells #[.bool (retB rs a)] 4 (0, 0)) ∧ ∃ v', OwnP w' B b t h r g c cs hist v' rs.dropLast ∧ Upd (fun k => B ≤ k ∨ k = z) w w' := by
  have HH := Lib.hid H
  have hge := H.ge
  have hlt := fun k hk => (H.ret.lt k hk).1
  have HL := Lib.hid hlt
  have HX := Lib.hid hx
  clear H hlt hx
  go_enter Try.func53, Try.ntmps53
  go_wp2_with fail
  refine (ret_any B b t h r g c cs hist v rs a _ HH.out hl).mono ?_
  rintro e W ⟨rfl, v', hP, hu, _⟩
  have hz1 := (hu.block z (Array.getElem?_eq_some_iff.1 HX.out).1 (fun hk => by
    rcases hk with hk | hk
    · omega
    · have := HL.out z hk; omega)).trans HX.out
  have c0 : W.cell? ⟨z, 0, none⟩ = some (.bool x0) := by simp [World.cell?, hz1]
  have d0 : W.frozen? ⟨z, 0, none⟩ = false := by simp [World.frozen?, hz1]
  have HP := Lib.hid hP
  have HZ := Lib.hid hz1
  have HU := Lib.hid hu
  clear hP hz1 hu
  go_wp2
  go_end0
  refine ⟨rfl, set1_heap HZ.out 0 _, v', HP.out.setOut z 0 _ hz, (HU.out.mono fun k hk => ?_).set (.inr rfl) 0 _⟩
  rcases hk with hk | hk
  · exact .inl (by omega)
  · exact .inl (HL.out k hk)

attribute [local irreducible] World.setCell in
set_option maxRecDepth 100000 in
set_option maxHeartbeats 1000000 in
theorem Train_bad (t h r : Int) (A R : Option Addr) (c rc : Nat) (cs rs : List Int) (hist : Int) (pc : Int) (taken : Bool) (w : World) (hc : RdI w .i64 A cs.length cs) (hq : ¬ predOk t h r cs hist rs) (hh : 0 ≤ hist ∧ hist < 4294967296) :
    Calls Try.prog 24 #[.agg #[.int .i64 t, .int .i64 h, .int .i64 r, .slice A cs.length c, .int .u32 hist, .slice R rs.length rc], .int .u32 pc, .bool taken] w fun e w' =>
      e = .returned (.tuple #[emptyP, .int .i64 330]) ∧ Below w.heap.size w w' := by
  obtain ⟨W0, hW0⟩ : ∃ W0, (((w.alloc (.cells #[.int .i64 t, .int .i64 h, .int .i64 r, .slice A cs.length c, .int .u32 hist, .slice R rs.length rc] 52)).alloc (.cells #[.int .u32 pc] 30)).alloc (.cells #[.bool taken] 4)).alloc zeroP = W0 := ⟨_, rfl⟩
  have hb0 : Below w.heap.size w W0 := by rw [← hW0]; exact (((((Below.refl _ _).alloc (by simp <;> omega) _).alloc (by simp <;> omega) _).alloc (by simp <;> omega) _).alloc (by simp <;> omega) _)
  have hx0 : W0.heap[w.heap.size]? = some (.cells #[.int .i64 t, .int .i64 h, .int .i64 r, .slice A cs.length c, .int .u32 hist, .slice R rs.length rc] 52 (0, 0)) := by rw [← hW0]; exact ((heap_alloc_old _ _ (by simp <;> omega)).trans ((heap_alloc_old _ _ (by simp <;> omega)).trans ((heap_alloc_old _ _ (by simp <;> omega)).trans (alloc_at _ _ _ (by simp <;> omega)))))
  have hx1 : W0.heap[w.heap.size + 3]? = some zeroP := by rw [← hW0]; exact (alloc_at _ _ _ (by simp <;> omega))
  have hsz : W0.heap.size = w.heap.size + 4 := by rw [← hW0]; simp
  obtain ⟨p0, p1, p2, p3, p4, p5, _⟩ := box6 hx0
  have HC := Lib.hid (Rd.below hc hb0)
  have HX := Lib.hid hx1
  have z1 : W0.cell? ⟨w.heap.size + 1, 0, none⟩ = some (.int .u32 pc) := by
    have e : W0.heap[w.heap.size + 1]? = some (.cells #[.int .u32 pc] 30 (0, 0)) := by rw [← hW0]; exact ((heap_alloc_old _ _ (by simp <;> omega)).trans ((heap_alloc_old _ _ (by simp <;> omega)).trans (alloc_at _ _ _ (by simp <;> omega))))
    simp [World.cell?, e]
  have z2 : W0.cell? ⟨w.heap.size + 2, 0, none⟩ = some (.bool taken) := by
    have e : W0.heap[w.heap.size + 2]? = some (.cells #[.bool taken] 4 (0, 0)) := by rw [← hW0]; exact ((heap_alloc_old _ _ (by simp <;> omega)).trans (alloc_at _ _ _ (by simp <;> omega)))
    simp [World.cell?, e]
  clear hx0 hx1 hc
  go_enter Try.func24, Try.ntmps24
  go_wp2_with fail
  refine (chg_train_bad ⟨w.heap.size + 1, 0, none⟩ ⟨w.heap.size + 2, 0, none⟩ t h r A R c rc cs rs hist _ HC.out hq hh).mono ?_
  rintro e W ⟨rfl, hb⟩
  have HY := Lib.hid (belowBox hb HX.out)
  obtain ⟨q0, q1, q2, q3, q4, q5, d0⟩ := box6 HY.out
  have hws := hb.size
  clear hq
  go_wp2
  (try simp only [Exit.inBlock, Exit.then])
  refine bodyPost_ret (v := .tuple #[emptyP, .int .i64 330]) (results_cell2 rfl rfl rfl (run_loadVar_row (P := Try.prog) _ _ 52 52 _ (0, 0) _ (set6_heap HY.out _ _ _ _ _ _) Try.underlying52 rfl (by kernel_rfl))) rfl ?_
  exact ⟨rfl, bset6 (hb0.trans (hb.mono (by omega))) (by omega) _ _ _ _ _ _⟩

attribute [local irreducible] World.setCell in
set_option maxRecDepth 100000 in
set_option maxHeartbeats 1000000 in
theorem Train_ok (t h r : Int) (A R : Option Addr) (c rc : Nat) (cs rs : List Int) (hist : Int) (pc : Int) (taken : Bool) (w : World) (H : RdP w A c cs R rc rs) (hq : predOk t h r cs hist rs) (hh : 0 ≤ hist ∧ hist < 4294967296) (hp : 0 ≤ pc ∧ pc < 4294967296) :
    Calls Try.prog 24 #[.agg #[.int .i64 t, .int .i64 h, .int .i64 r, .slice A cs.length c, .int .u32 hist, .slice R rs.length rc], .int .u32 pc, .bool taken] w fun e w' =>
      ∃ u, e = .returned (.tuple #[u, .int .i64 0]) ∧ PredIs w u t h r (trainCs cs pc hist taken) (trainH h hist taken) rs w' ∧ Below w.heap.size w w' := by
  obtain ⟨hl1, hl2, hl3⟩ := predOk_len hq
  obtain ⟨t1, t2, u1, u2, r1, r2⟩ := predShapeB_le hq.1
  obtain ⟨h, rfl⟩ := Int.eq_ofNat_of_zero_le u1
  obtain ⟨W0, hW0⟩ : ∃ W0, (((w.alloc (.cells #[.int .i64 t, .int .i64 h, .int .i64 r, .slice A cs.length c, .int .u32 hist, .slice R rs.length rc] 52)).alloc (.cells #[.int .u32 pc] 30)).alloc (.cells #[.bool taken] 4)).alloc zeroP = W0 := ⟨_, rfl⟩
  have hb0 : Below w.heap.size w W0 := by rw [← hW0]; exact (((((Below.refl _ _).alloc (by simp <;> omega) _).alloc (by simp <;> omega) _).alloc (by simp <;> omega) _).alloc (by simp <;> omega) _)
  have hx0 : W0.heap[w.heap.size]? = some (.cells #[.int .i64 t, .int .i64 h, .int .i64 r, .slice A cs.length c, .int .u32 hist, .slice R rs.length rc] 52 (0, 0)) := by rw [← hW0]; exact ((heap_alloc_old _ _ (by simp <;> omega)).trans ((heap_alloc_old _ _ (by simp <;> omega)).trans ((heap_alloc_old _ _ (by simp <;> omega)).trans (alloc_at _ _ _ (by simp <;> omega)))))
  have hx1 : W0.heap[w.heap.size + 3]? = some zeroP := by rw [← hW0]; exact (alloc_at _ _ _ (by simp <;> omega))
  have z1 : W0.cell? ⟨w.heap.size + 1, 0, none⟩ = some (.int .u32 pc) := by
    have e : W0.heap[w.heap.size + 1]? = some (.cells #[.int .u32 pc] 30 (0, 0)) := by rw [← hW0]; exact ((heap_alloc_old _ _ (by simp <;> omega)).trans ((heap_alloc_old _ _ (by simp <;> omega)).trans (alloc_at _ _ _ (by simp <;> omega))))
    simp [World.cell?, e]
  have z2 : W0.cell? ⟨w.heap.size + 2, 0, none⟩ = some (.bool taken) := by
    have e : W0.heap[w.heap.size + 2]? = some (.cells #[.bool taken] 4 (0, 0)) := by rw [← hW0]; exact ((heap_alloc_old _ _ (by simp <;> omega)).trans (alloc_at _ _ _ (by simp <;> omega)))
    simp [World.cell?, e]
  have hsz : W0.heap.size = w.heap.size + 4 := by rw [← hW0]; simp
  obtain ⟨p0, p1, p2, p3, p4, p5, _⟩ := box6 hx0
  have HC := Lib.hid (H.below hb0)
  have HX := Lib.hid hx1
  have HQ := Lib.hid hq
  clear hx0 hx1 H hq
  go_enter Try.func24, Try.ntmps24
  go_wp2_with fail
  refine (chg_train_ok ⟨w.heap.size + 1, 0, none⟩ ⟨w.heap.size + 2, 0, none⟩ t h r A R c rc cs rs hist _ HC.out HQ.out hh (fun _ => False) (fun _ h => h.elim) (fun _ => True) (fun _ _ _ _ _ => trivial) (trainCs cs pc hist taken) (trainH h hist taken) rs (fun W B b g c' v hP hB1 hB2 hbw => ?_)).mono ?_
  · refine (train1_any _ _ B b t r h g c' cs hist v rs pc taken W hP (by omega) hl1 hp hh (predOk_cs HQ.out) (bkeep hbw z1) (bkeep hbw z2)).mono ?_
    rintro e W' ⟨rfl, hP', hu'⟩
    refine ⟨rfl, trivial, v, hP', hu'.mono fun k hk => .inl ?_⟩
    have := hP.ge
    have := (hP.cnt.lt g rfl).1
    omega
  rintro e W ⟨g, c', v', rfl, ho, hv, hne, hZ, hu⟩
  have hws := hu.size
  have HY := Lib.hid ((hu.block (w.heap.size + 3) (by omega) (fun h => h.elim)).trans HX.out)
  obtain ⟨q0, q1, q2, q3, q4, q5, d0⟩ := box6 HY.out
  obtain ⟨A5, c5, rfl, _⟩ := hv.slice
  rw [nums_length] at hv hne
  have HO := Lib.hid ho
  have HV := Lib.hid hv
  have HN := Lib.hid hne
  have HU := Lib.hid hu
  clear ho hv hne hu hZ
  go_wp2
  (try simp only [Exit.inBlock, Exit.then])
  refine bodyPost_ret (v := .tuple #[.agg #[.int .i64 t, .int .i64 h, .int .i64 r, .slice (some ⟨g, 0, none⟩) (trainCs cs pc hist taken).length c', .int .u32 (trainH h hist taken), .slice A5 rs.length c5], .int .i64 0]) (results_cell2 rfl rfl rfl (run_loadVar_row (P := Try.prog) _ _ 52 52 _ (0, 0) _ (set6_heap HY.out _ _ _ _ _ _) Try.underlying52 rfl (by kernel_rfl))) rfl ?_
  have hu6 : Upd (fun k => k = w.heap.size + 3) W _ := uset6 W (w.heap.size + 3) (.int .i64 t) (.int .i64 h) (.int .i64 r) (.slice (some ⟨g, 0, none⟩) (trainCs cs pc hist taken).length c') (.int .u32 (trainH h hist taken)) (.slice A5 rs.length c5)
  refine ⟨_, rfl, ⟨g, c', _, rfl, own_base' (own_upd HO.out hu6 fun k hk e => ?_) fun k hk => ?_, (HV.out.upd hu6 fun k hk e => ?_).base fun k hk => ?_, HN.out⟩, bset6 (hb0.trans (Below.mono (HU.out.below (Nat.le_refl _) fun k hk => hk.elim) (by omega))) (by omega) _ _ _ _ _ _⟩
  · have := (HO.out.lt k hk).1; omega
  · have := (HO.out.lt k hk).1; omega
  · have := (HV.out.lt k hk).1; omega
  · have := (HV.out.lt k hk).1; omega

attribute [local irreducible] World.setCell in
set_option maxRecDepth 100000 in
set_option maxHeartbeats 1000000 in
theorem Call_bad (t h r : Int) (A R : Option Addr) (c rc : Nat) (cs rs : List Int) (hist : Int) (a : Int) (w : World) (hc : RdI w .i64 A cs.length cs) (hq : ¬ predOk t h r cs hist rs) (hh : 0 ≤ hist ∧ hist < 4294967296) :
    Calls Try.prog 25 #[.agg #[.int .i64 t, .int .i64 h, .int .i64 r, .slice A cs.length c, .int .u32 hist, .slice R rs.length rc], .int .u32 a] w fun e w' =>
      e = .returned (.tuple #[emptyP, .int .i64 330]) ∧ Below w.heap.size w w' := by
  obtain ⟨W0, hW0⟩ : ∃ W0, ((w.alloc (.cells #[.int .i64 t, .int .i64 h, .int .i64 r, .slice A cs.length c, .int .u32 hist, .slice R rs.length rc] 52)).alloc (.cells #[.int .u32 a] 30)).alloc zeroP = W0 := ⟨_, rfl⟩
  have hb0 : Below w.heap.size w W0 := by rw [← hW0]; exact ((((Below.refl _ _).alloc (by simp <;> omega) _).alloc (by simp <;> omega) _).alloc (by simp <;> omega) _)
  have hx0 : W0.heap[w.heap.size]? = some (.cells #[.int .i64 t, .int .i64 h, .int .i64 r, .slice A cs.length c, .int .u32 hist, .slice R rs.length rc] 52 (0, 0)) := by rw [← hW0]; exact ((heap_alloc_old _ _ (by simp <;> omega)).trans ((heap_alloc_old _ _ (by simp <;> omega)).trans (alloc_at _ _ _ (by simp <;> omega))))
  have hx1 : W0.heap[w.heap.size + 2]? = some zeroP := by rw [← hW0]; exact (alloc_at _ _ _ (by simp <;> omega))
  have hsz : W0.heap.size = w.heap.size + 3 := by rw [← hW0]; simp
  obtain ⟨p0, p1, p2, p3, p4, p5, _⟩ := box6 hx0
  have HC := Lib.hid (Rd.below hc hb0)
  have HX := Lib.hid hx1
  have z1 : W0.cell? ⟨w.heap.size + 1, 0, none⟩ = some (.int .u32 a) := by
    have e : W0.heap[w.heap.size + 1]? = some (.cells #[.int .u32 a] 30 (0, 0)) := by rw [← hW0]; exact ((heap_alloc_old _ _ (by simp <;> omega)).trans (alloc_at _ _ _ (by simp <;> omega)))
    simp [World.cell?, e]
  clear hx0 hx1 hc
  go_enter Try.func25, Try.ntmps25
  go_wp2_with fail
  refine (chg_call_bad ⟨w.heap.size + 1, 0, none⟩ t h r A R c rc cs rs hist _ HC.out hq hh).mono ?_
  rintro e W ⟨rfl, hb⟩
  have HY := Lib.hid (belowBox hb HX.out)
  obtain ⟨q0, q1, q2, q3, q4, q5, d0⟩ := box6 HY.out
  have hws := hb.size
  clear hq
  go_wp2
  (try simp only [Exit.inBlock, Exit.then])
  refine bodyPost_ret (v := .tuple #[emptyP, .int .i64 330]) (results_cell2 rfl rfl rfl (run_loadVar_row (P := Try.prog) _ _ 52 52 _ (0, 0) _ (set6_heap HY.out _ _ _ _ _ _) Try.underlying52 rfl (by kernel_rfl))) rfl ?_
  exact ⟨rfl, bset6 (hb0.trans (hb.mono (by omega))) (by omega) _ _ _ _ _ _⟩

attribute [local irreducible] World.setCell in
set_option maxRecDepth 100000 in
set_option maxHeartbeats 1000000 in
theorem Call_ok (t h r : Int) (A R : Option Addr) (c rc : Nat) (cs rs : List Int) (hist : Int) (a : Int) (w : World) (H : RdP w A c cs R rc rs) (hq : predOk t h r cs hist rs) (hh : 0 ≤ hist ∧ hist < 4294967296) :
    Calls Try.prog 25 #[.agg #[.int .i64 t, .int .i64 h, .int .i64 r, .slice A cs.length c, .int .u32 hist, .slice R rs.length rc], .int .u32 a] w fun e w' =>
      ∃ u, e = .returned (.tuple #[u, .int .i64 0]) ∧ PredIs w u t h r cs hist (callL r rs a) w' ∧ Below w.heap.size w w' := by
  obtain ⟨hl1, hl2, hl3⟩ := predOk_len hq
  obtain ⟨W0, hW0⟩ : ∃ W0, ((w.alloc (.cells #[.int .i64 t, .int .i64 h, .int .i64 r, .slice A cs.length c, .int .u32 hist, .slice R rs.length rc] 52)).alloc (.cells #[.int .u32 a] 30)).alloc zeroP = W0 := ⟨_, rfl⟩
  have hb0 : Below w.heap.size w W0 := by rw [← hW0]; exact ((((Below.refl _ _).alloc (by simp <;> omega) _).alloc (by simp <;> omega) _).alloc (by simp <;> omega) _)
  have hx0 : W0.heap[w.heap.size]? = some (.cells #[.int .i64 t, .int .i64 h, .int .i64 r, .slice A cs.length c, .int .u32 hist, .slice R rs.length rc] 52 (0, 0)) := by rw [← hW0]; exact ((heap_alloc_old _ _ (by simp <;> omega)).trans ((heap_alloc_old _ _ (by simp <;> omega)).trans (alloc_at _ _ _ (by simp <;> omega))))
  have hx1 : W0.heap[w.heap.size + 2]? = some zeroP := by rw [← hW0]; exact (alloc_at _ _ _ (by simp <;> omega))
  have z1 : W0.cell? ⟨w.heap.size + 1, 0, none⟩ = some (.int .u32 a) := by
    have e : W0.heap[w.heap.size + 1]? = some (.cells #[.int .u32 a] 30 (0, 0)) := by rw [← hW0]; exact ((heap_alloc_old _ _ (by simp <;> omega)).trans (alloc_at _ _ _ (by simp <;> omega)))
    simp [World.cell?, e]
  have hsz : W0.heap.size = w.heap.size + 3 := by rw [← hW0]; simp
  obtain ⟨p0, p1, p2, p3, p4, p5, _⟩ := box6 hx0
  have HC := Lib.hid (H.below hb0)
  have HX := Lib.hid hx1
  have HQ := Lib.hid hq
  clear hx0 hx1 H hq
  go_enter Try.func25, Try.ntmps25
  go_wp2_with fail
  refine (chg_call_ok ⟨w.heap.size + 1, 0, none⟩ t h r A R c rc cs rs hist _ HC.out HQ.out hh (fun _ => False) (fun _ h => h.elim) (fun _ => True) (fun _ _ _ _ _ => trivial) cs hist (callL r rs a) (fun W B b g c' v hP hB1 hB2 hbw => ?_)).mono ?_
  · refine (call1_any _ B b t h r g c' cs hist v rs a W hP hB2 (by omega) (bkeep hbw z1)).mono ?_
    rintro e W' ⟨rfl, v', hP', hu'⟩
    refine ⟨rfl, trivial, v', hP', hu'.mono fun k hk => .inl ?_⟩
    have := hP.ge
    rcases hk with hk | hk
    · omega
    · exact (hP.ret.lt k hk).1
  rintro e W ⟨g, c', v', rfl, ho, hv, hne, hZ, hu⟩
  have hws := hu.size
  have HY := Lib.hid ((hu.block (w.heap.size + 2) (by omega) (fun h => h.elim)).trans HX.out)
  obtain ⟨q0, q1, q2, q3, q4, q5, d0⟩ := box6 HY.out
  obtain ⟨A5, c5, rfl, _⟩ := hv.slice
  rw [nums_length] at hv hne
  have HO := Lib.hid ho
  have HV := Lib.hid hv
  have HN := Lib.hid hne
  have HU := Lib.hid hu
  clear ho hv hne hu hZ
  go_wp2
  (try simp only [Exit.inBlock, Exit.then])
  refine bodyPost_ret (v := .tuple #[.agg #[.int .i64 t, .int .i64 h, .int .i64 r, .slice (some ⟨g, 0, none⟩) cs.length c', .int .u32 hist, .slice A5 (callL r rs a).length c5], .int .i64 0]) (results_cell2 rfl rfl rfl (run_loadVar_row (P := Try.prog) _ _ 52 52 _ (0, 0) _ (set6_heap HY.out _ _ _ _ _ _) Try.underlying52 rfl (by kernel_rfl))) rfl ?_
  have hu6 : Upd (fun k => k = w.heap.size + 2) W _ := uset6 W (w.heap.size + 2) (.int .i64 t) (.int .i64 h) (.int .i64 r) (.slice (some ⟨g, 0, none⟩) cs.length c') (.int .u32 hist) (.slice A5 (callL r rs a).length c5)
  refine ⟨_, rfl, ⟨g, c', _, rfl, own_base' (own_upd HO.out hu6 fun k hk e => ?_) fun k hk => ?_, (HV.out.upd hu6 fun k hk e => ?_).base fun k hk => ?_, HN.out⟩, bset6 (hb0.trans (Below.mono (HU.out.below (Nat.le_refl _) fun k hk => hk.elim) (by omega))) (by omega) _ _ _ _ _ _⟩
  · have := (HO.out.lt k hk).1; omega
  · have := (HO.out.lt k hk).1; omega
  · have := (HV.out.lt k hk).1; omega
  · have := (HV.out.lt k hk).1; omega

attribute [local irreducible] World.setCell in
set_option maxRecDepth 100000 in
set_option maxHeartbeats 1000000 in
theorem Return_bad (t h r : Int) (A R : Option Addr) (c rc : Nat) (cs rs : List Int) (hist : Int) (a : Int) (w : World) (hc : RdI w .i64 A cs.length cs) (hq : ¬ predOk t h r cs hist rs) (hh : 0 ≤ hist ∧ hist < 4294967296) :
    Calls Try.prog 26 #[.agg #[.int .i64 t, .int .i64 h, .int .i64 r, .slice A cs.length c, .int .u32 hist, .slice R rs.length rc], .int .u32 a] w fun e w' =>
      e = .returned (.tuple #[emptyP, .bool false, .int .i64 330]) ∧ Below w.heap.size w w' := by
  obtain ⟨W0, hW0⟩ : ∃ W0, ((((w.alloc (.cells #[.int .i64 t, .int .i64 h, .int .i64 r, .slice A cs.length c, .int .u32 hist, .slice R rs.length rc] 52)).alloc (.cells #[.int .u32 a] 30)).alloc zeroP).alloc (.cells #[.bool false] 4)).setCell ⟨w.heap.size + 1 + 1 + 1, 0, none⟩ (.bool false) = W0 := ⟨_, rfl⟩
  have hb0 : Below w.heap.size w W0 := by rw [← hW0]; exact (((((Below.refl _ _).alloc (by simp <;> omega) _).alloc (by simp <;> omega) _).alloc (by simp <;> omega) _).alloc (by simp <;> omega) _).trans ((Upd.setCell _ ⟨w.heap.size + 1 + 1 + 1, 0, none⟩ _).below (by simp <;> omega) fun k hk => by simp at hk; omega)
  have hx0 : W0.heap[w.heap.size]? = some (.cells #[.int .i64 t, .int .i64 h, .int .i64 r, .slice A cs.length c, .int .u32 hist, .slice R rs.length rc] 52 (0, 0)) := by rw [← hW0]; exact ((Upd.setCell _ ⟨w.heap.size + 1 + 1 + 1, 0, none⟩ _).block _ (by simp <;> omega) (by simp <;> omega)).trans ((heap_alloc_old _ _ (by simp <;> omega)).trans ((heap_alloc_old _ _ (by simp <;> omega)).trans ((heap_alloc_old _ _ (by simp <;> omega)).trans (alloc_at _ _ _ (by simp <;> omega)))))
  have hx1 : W0.heap[w.heap.size + 2]? = some zeroP := by rw [← hW0]; exact ((Upd.setCell _ ⟨w.heap.size + 1 + 1 + 1, 0, none⟩ _).block _ (by simp <;> omega) (by simp <;> omega)).trans ((heap_alloc_old _ _ (by simp <;> omega)).trans (alloc_at _ _ _ (by simp <;> omega)))
  have hsz : W0.heap.size = w.heap.size + 4 := by rw [← hW0]; simp [World.setCell]
  obtain ⟨p0, p1, p2, p3, p4, p5, _⟩ := box6 hx0
  have HC := Lib.hid (Rd.below hc hb0)
  have HX := Lib.hid hx1
  have z1 : W0.cell? ⟨w.heap.size + 1, 0, none⟩ = some (.int .u32 a) := by
    have e : W0.heap[w.heap.size + 1]? = some (.cells #[.int .u32 a] 30 (0, 0)) := by rw [← hW0]; exact ((Upd.setCell _ ⟨w.heap.size + 1 + 1 + 1, 0, none⟩ _).block _ (by simp <;> omega) (by simp <;> omega)).trans ((heap_alloc_old _ _ (by simp <;> omega)).trans ((heap_alloc_old _ _ (by simp <;> omega)).trans (alloc_at _ _ _ (by simp <;> omega))))
    simp [World.cell?, e]
  have hx3 : W0.heap[w.heap.size + 3]? = some (.cells #[.bool false] 4 (0, 0)) := by rw [← hW0]; exact set1_heap (alloc_at _ _ _ (by simp <;> omega)) 0 _
  have HX3 := Lib.hid hx3
  clear hx3
  clear hx0 hx1 hc
  go_enter Try.func26, Try.ntmps26
  go_wp2_with fail
  refine (chg_ret_bad ⟨w.heap.size + 1, 0, none⟩ ⟨w.heap.size + 3, 0, none⟩ t h r A R c rc cs rs hist _ HC.out hq hh).mono ?_
  rintro e W ⟨rfl, hb⟩
  have HY := Lib.hid (belowBox hb HX.out)
  obtain ⟨q0, q1, q2, q3, q4, q5, d0⟩ := box6 HY.out
  have hws := hb.size
  clear hq
  have HZ := Lib.hid (belowBox hb HX3.out)
  clear q0 q1 q2 q3 q4 q5 d0
  obtain ⟨W4, hW4⟩ : ∃ W4, W.alloc zeroP = W4 := ⟨_, rfl⟩
  have hu4 : Upd (fun k => k = W.heap.size) W W4 := by rw [← hW4]; exact Upd.alloc _ _ _
  have hs4 : W4.heap.size = W.heap.size + 1 := by rw [← hW4]; simp
  have hn4 : W4.heap[W.heap.size]? = some zeroP := by rw [← hW4]; exact heap_alloc_new _ _
  obtain ⟨m0, m1, m2, m3, m4, m5, dm⟩ := box6 hn4
  obtain ⟨W5, hW5⟩ : ∃ W5, (((((W4.setCell ⟨W.heap.size, 0, none⟩ (.int .i64 0)).setCell ⟨W.heap.size, 1, none⟩ (.int .i64 0)).setCell ⟨W.heap.size, 2, none⟩ (.int .i64 0)).setCell ⟨W.heap.size, 3, none⟩ (.slice none 0 0)).setCell ⟨W.heap.size, 4, none⟩ (.int .u32 0)).setCell ⟨W.heap.size, 5, none⟩ (.slice none 0 0) = W5 := ⟨_, rfl⟩
  have hu5 : Upd (fun k => k = W.heap.size) W W5 := by rw [← hW5]; exact hu4.trans (uset6 W4 W.heap.size _ _ _ _ _ _) fun _ h => .inl h
  have hs5 : W5.heap.size = W.heap.size + 1 := by rw [← hW5]; simp [World.setCell, hs4]
  have hn5 : W5.heap[W.heap.size]? = some zeroP := by rw [← hW5]; exact set6_heap hn4 _ _ _ _ _ _
  have HY5 := Lib.hid ((hu5.block _ (by omega) (by omega)).trans HY.out)
  have hz5 := (hu5.block _ (by omega) (by omega)).trans HZ.out
  have z5 : W5.cell? ⟨w.heap.size + 3, 0, none⟩ = some (.bool false) := by simp [World.cell?, hz5]
  obtain ⟨n0, n1, n2, n3, n4, n5, _⟩ := box6 hn5
  obtain ⟨q0, q1, q2, q3, q4, q5, d0⟩ := box6 HY5.out
  clear hz5 hn5
  go_wp2_with fail
  go_region
  go_wp2
  (try simp only [Exit.inBlock, Exit.then])
  refine bodyPost_ret (v := .tuple #[.agg #[.int .i64 0, .int .i64 0, .int .i64 0, .slice none 0 0, .int .u32 0, .slice none 0 0], .bool false, .int .i64 330]) (results_cell3 rfl rfl rfl rfl (run_loadVar_row (P := Try.prog) _ _ 52 52 _ (0, 0) _ (set6_heap HY5.out _ _ _ _ _ _) Try.underlying52 rfl (by kernel_rfl))) rfl ?_
  exact ⟨rfl, bdrewN (bset6 (hb0.trans (hb.mono (by omega)) |>.trans (hu5.below (by omega) fun _ h => by omega)) (by omega) _ _ _ _ _ _) 1⟩

attribute [local irreducible] World.setCell in
set_option maxRecDepth 100000 in
set_option maxHeartbeats 1000000 in
theorem Return_ok (t h r : Int) (A R : Option Addr) (c rc : Nat) (cs rs : List Int) (hist : Int) (a : Int) (w : World) (H : RdP w A c cs R rc rs) (hq : predOk t h r cs hist rs) (hh : 0 ≤ hist ∧ hist < 4294967296) :
    Calls Try.prog 26 #[.agg #[.int .i64 t, .int .i64 h, .int .i64 r, .slice A cs.length c, .int .u32 hist, .slice R rs.length rc], .int .u32 a] w fun e w' =>
      ∃ u, e = .returned (.tuple #[u, .bool (retB rs a), .int .i64 0]) ∧ PredIs w u t h r cs hist rs.dropLast w' ∧ Below w.heap.size w w' := by
  obtain ⟨hl1, hl2, hl3⟩ := predOk_len hq
  obtain ⟨W0, hW0⟩ : ∃ W0, ((((w.alloc (.cells #[.int .i64 t, .int .i64 h, .int .i64 r, .slice A cs.length c, .int .u32 hist, .slice R rs.length rc] 52)).alloc (.cells #[.int .u32 a] 30)).alloc zeroP).alloc (.cells #[.bool false] 4)).setCell ⟨w.heap.size + 1 + 1 + 1, 0, none⟩ (.bool false) = W0 := ⟨_, rfl⟩
  have hb0 : Below w.heap.size w W0 := by rw [← hW0]; exact (((((Below.refl _ _).alloc (by simp <;> omega) _).alloc (by simp <;> omega) _).alloc (by simp <;> omega) _).alloc (by simp <;> omega) _).trans ((Upd.setCell _ ⟨w.heap.size + 1 + 1 + 1, 0, none⟩ _).below (by simp <;> omega) fun k hk => by simp at hk; omega)
  have hx0 : W0.heap[w.heap.size]? = some (.cells #[.int .i64 t, .int .i64 h, .int .i64 r, .slice A cs.length c, .int .u32 hist, .slice R rs.length rc] 52 (0, 0)) := by rw [← hW0]; exact ((Upd.setCell _ ⟨w.heap.size + 1 + 1 + 1, 0, none⟩ _).block _ (by simp <;> omega) (by simp <;> omega)).trans ((heap_alloc_old _ _ (by simp <;> omega)).trans ((heap_alloc_old _ _ (by simp <;> omega)).trans ((heap_alloc_old _ _ (by simp <;> omega)).trans (alloc_at _ _ _ (by simp <;> omega)))))
  have hx1 : W0.heap[w.heap.size + 2]? = some zeroP := by rw [← hW0]; exact ((Upd.setCell _ ⟨w.heap.size + 1 + 1 + 1, 0, none⟩ _).block _ (by simp <;> omega) (by simp <;> omega)).trans ((heap_alloc_old _ _ (by simp <;> omega)).trans (alloc_at _ _ _ (by simp <;> omega)))
  have z1 : W0.cell? ⟨w.heap.size + 1, 0, none⟩ = some (.int .u32 a) := by
    have e : W0.heap[w.heap.size + 1]? = some (.cells #[.int .u32 a] 30 (0, 0)) := by rw [← hW0]; exact ((Upd.setCell _ ⟨w.heap.size + 1 + 1 + 1, 0, none⟩ _).block _ (by simp <;> omega) (by simp <;> omega)).trans ((heap_alloc_old _ _ (by simp <;> omega)).trans ((heap_alloc_old _ _ (by simp <;> omega)).trans (alloc_at _ _ _ (by simp <;> omega))))
    simp [World.cell?, e]
  have hx3 : W0.heap[w.heap.size + 3]? = some (.cells #[.bool false] 4 (0, 0)) := by rw [← hW0]; exact set1_heap (alloc_at _ _ _ (by simp <;> omega)) 0 _
  have hsz : W0.heap.size = w.heap.size + 4 := by rw [← hW0]; simp [World.setCell]
  obtain ⟨p0, p1, p2, p3, p4, p5, _⟩ := box6 hx0
  have HC := Lib.hid (H.below hb0)
  have HX := Lib.hid hx1
  have HQ := Lib.hid hq
  have HX3 := Lib.hid hx3
  clear hx3
  clear hx0 hx1 H hq
  go_enter Try.func26, Try.ntmps26
  go_wp2_with fail
  refine (chg_ret_ok ⟨w.heap.size + 1, 0, none⟩ ⟨w.heap.size + 3, 0, none⟩ t h r A R c rc cs rs hist _ HC.out HQ.out hh (fun k => k = w.heap.size + 3) (fun _ h => by omega) (fun W => W.heap[w.heap.size + 3]? = some (.cells #[.bool (retB rs a)] 4 (0, 0))) (fun W1 W2 hu hs hz => (hu.block _ (Array.getElem?_eq_some_iff.1 hz).1 (by omega)).trans hz) cs hist rs.dropLast (fun W B b g c' v hP hB1 hB2 hbw => ?_)).mono ?_
  · refine (ret1_any _ (w.heap.size + 3) false B b t h r g c' cs hist v rs a W hP (by omega) (bkeep hbw z1) (by omega) (belowBox hbw HX3.out)).mono ?_
    rintro e W' ⟨rfl, hz', v', hP', hu'⟩
    exact ⟨rfl, hz', v', hP', hu'⟩
  rintro e W ⟨g, c', v', rfl, ho, hv, hne, hZ, hu⟩
  have hws := hu.size
  have HY := Lib.hid ((hu.block (w.heap.size + 2) (by omega) (by omega)).trans HX.out)
  obtain ⟨q0, q1, q2, q3, q4, q5, d0⟩ := box6 HY.out
  obtain ⟨A5, c5, rfl, _⟩ := hv.slice
  rw [nums_length] at hv hne
  have HO := Lib.hid ho
  have HV := Lib.hid hv
  have HN := Lib.hid hne
  have HU := Lib.hid hu
  have HZ := Lib.hid hZ
  clear ho hv hne hu hZ
  clear q0 q1 q2 q3 q4 q5 d0
  obtain ⟨k5, hk5⟩ : ∃ k, rs.dropLast.length = k := ⟨_, rfl⟩
  rw [nums_length]
  rw [hk5] at HV HN ⊢
  obtain ⟨W5, hW5⟩ : ∃ W5, W.alloc (.cells #[.int .i64 t, .int .i64 h, .int .i64 r, .slice (some ⟨g, 0, none⟩) cs.length c', .int .u32 hist, .slice A5 k5 c5] 52) = W5 := ⟨_, rfl⟩
  have hu5 : Upd (fun k => k = W.heap.size) W W5 := by rw [← hW5]; exact Upd.alloc _ _ _
  have hs5 : W5.heap.size = W.heap.size + 1 := by rw [← hW5]; simp
  have hn5 : W5.heap[W.heap.size]? = some (.cells #[.int .i64 t, .int .i64 h, .int .i64 r, .slice (some ⟨g, 0, none⟩) cs.length c', .int .u32 hist, .slice A5 k5 c5] 52 (0, 0)) := by rw [← hW5]; exact heap_alloc_new _ _
  have HY5 := Lib.hid ((hu5.block _ (by omega) (by omega)).trans HY.out)
  have hz5 := (hu5.block _ (by omega) (by omega)).trans HZ.out
  have z5 : W5.cell? ⟨w.heap.size + 3, 0, none⟩ = some (.bool (retB rs a)) := by simp [World.cell?, hz5]
  obtain ⟨n0, n1, n2, n3, n4, n5, _⟩ := box6 hn5
  obtain ⟨q0, q1, q2, q3, q4, q5, d0⟩ := box6 HY5.out
  clear hz5 hn5
  go_wp2_with fail
  go_region
  go_wp2
  (try simp only [Exit.inBlock, Exit.then])
  refine bodyPost_ret (v := .tuple #[.agg #[.int .i64 t, .int .i64 h, .int .i64 r, .slice (some ⟨g, 0, none⟩) cs.length c', .int .u32 hist, .slice A5 k5 c5], .bool (retB rs a), .int .i64 0]) (results_cell3 rfl rfl rfl rfl (run_loadVar_row (P := Try.prog) _ _ 52 52 _ (0, 0) _ (set6_heap HY5.out _ _ _ _ _ _) Try.underlying52 rfl (by kernel_rfl))) rfl ?_
  have hu6 : Upd (fun k => k = w.heap.size + 2) W5 _ := uset6 W5 (w.heap.size + 2) (.int .i64 t) (.int .i64 h) (.int .i64 r) (.slice (some ⟨g, 0, none⟩) cs.length c') (.int .u32 hist) (.slice A5 k5 c5)
  have hu7 : Upd (fun k => k = w.heap.size + 2) W _ := ((⟨hu5.os, hu5.tape, hu5.output, hu5.size, fun k hk _ => hu5.block k hk (by omega)⟩ : Upd (fun k => k = w.heap.size + 2) W W5).trans hu6 fun _ h => .inl h).trans (Upd.drew (fun _ => False) _) fun _ h => h.elim
  have hbw : Below w.heap.size w W := hb0.trans (HU.out.below (by omega) fun k hk => by omega)
  refine ⟨_, rfl, ⟨g, c', _, rfl, own_base' (own_upd HO.out hu7 fun k hk e => ?_) fun k hk => ?_, (HV.out.upd hu7 fun k hk e => ?_).base fun k hk => ?_, HN.out⟩, hbw.trans (hu7.below (by omega) fun k hk => by omega)⟩
  · have := (HO.out.lt k hk).1; omega
  · have := (HO.out.lt k hk).1; omega
  · have := (HV.out.lt k hk).1; omega
  · have := (HV.out.lt k hk).1; omega
end Go.Proofs.Ytdkacdfhapgboaa

/- sim.Predict, CheckPred. -/
set_option linter.unusedVariables false
set_option linter.unusedSimpArgs false
namespace Go.Proofs.Ytdkacdfhapgboaa
open Go.RowKit

theorem checkPred_any (t h r : Int) (A : Option Addr) (c : Nat) (cs : List Int) (hist : Int) (R : Option Addr) (rs : List Int) (rc : Nat) (w : World) (hc : RdI w .i64 A cs.length cs) (hh : 0 ≤ hist ∧ hist < 4294967296) :
    Calls Try.prog 38 #[.agg #[.int .i64 t, .int .i64 h, .int .i64 r, .slice A cs.length c, .int .u32 hist, .slice R rs.length rc]] w fun e w' => e = .returned (.int .i64 (if predOk t h r cs hist rs then 0 else 330)) ∧ Below w.heap.size w w' := by
  obtain ⟨W0, hW0⟩ : ∃ W0, w.alloc (.cells #[.int .i64 t, .int .i64 h, .int .i64 r, .slice A cs.length c, .int .u32 hist, .slice R rs.length rc] 52) = W0 := ⟨_, rfl⟩
  have hb0 : Below w.heap.size w W0 := by rw [← hW0]; exact balloc w _
  have hx0 : W0.heap[w.heap.size]? = some (.cells #[.int .i64 t, .int .i64 h, .int .i64 r, .slice A cs.length c, .int .u32 hist, .slice R rs.length rc] 52 (0, 0)) := by rw [← hW0]; exact heap_alloc_new w _
  obtain ⟨c0, c1, c2, c3, c4, c5, _⟩ := box6 hx0
  have HC := Lib.hid (Rd.below hc hb0)
  clear hc hx0
  by_cases hq : predOk t h r cs hist rs
  · rw [if_pos hq]
    go_enter Try.func38, Try.ntmps38
    go_wp2_with fail
    refine (pred_any t h r A c cs hist R _ rc _ HC.out rs rfl hh).mono ?_
    rintro e W ⟨rfl, hb⟩
    rw [decide_eq_true hq]
    clear hq
    go_wp2_with fail
    refine (number_any _ _).mono ?_
    rintro e W2 ⟨rfl, rfl⟩
    go_wp2
    go_ret
    exact ⟨rfl, bvia hb0 hb (Nat.le_refl _)⟩
  · rw [if_neg hq]
    go_enter Try.func38, Try.ntmps38
    go_wp2_with fail
    refine (pred_any t h r A c cs hist R _ rc _ HC.out rs rfl hh).mono ?_
    rintro e W ⟨rfl, hb⟩
    rw [decide_eq_false hq]
    clear hq
    go_wp2_with fail
    refine (number_any _ _).mono ?_
    rintro e W2 ⟨rfl, rfl⟩
    go_wp2
    go_ret
    exact ⟨rfl, bvia hb0 hb (Nat.le_refl _)⟩

def predictB (t h r : Int) (cs : List Int) (hist : Int) (rs : List Int) (pc : Int) : Bool := decide (predOk t h r cs hist rs) && decide (2 ≤ gi cs (ctrI pc hist cs.length).toNat)
set_option maxRecDepth 100000 in
set_option maxHeartbeats 1000000 in
theorem Predict_any (t h r : Int) (A : Option Addr) (c : Nat) (cs : List Int) (hist : Int) (R : Option Addr) (rs : List Int) (rc : Nat) (pc : Int) (w : World) (hc : RdI w .i64 A cs.length cs) (hh : 0 ≤ hist ∧ hist < 4294967296) (hp : 0 ≤ pc ∧ pc < 4294967296) :
    Calls Try.prog 23 #[.agg #[.int .i64 t, .int .i64 h, .int .i64 r, .slice A cs.length c, .int .u32 hist, .slice R rs.length rc], .int .u32 pc] w fun e w' => e = .returned (.bool (predictB t h r cs hist rs pc)) ∧ Below w.heap.size w w' := by
  obtain ⟨W0, hW0⟩ : ∃ W0, w.alloc (.cells #[.int .i64 t, .int .i64 h, .int .i64 r, .slice A cs.length c, .int .u32 hist, .slice R rs.length rc] 52) = W0 := ⟨_, rfl⟩
  have hb0 : Below w.heap.size w W0 := by rw [← hW0]; exact balloc w _
  have hx0 : W0.heap[w.heap.size]? = some (.cells #[.int .i64 t, .int .i64 h, .int .i64 r, .slice A cs.length c, .int .u32 hist, .slice R rs.length rc] 52 (0, 0)) := by rw [← hW0]; exact heap_alloc_new w _
  obtain ⟨c0, c1, c2, c3, c4, c5, _⟩ := box6 hx0
  have HC := Lib.hid (Rd.below hc hb0)
  have HX := Lib.hid hx0
  clear hc hx0
  unfold predictB
  by_cases hq : predOk t h r cs hist rs
  · obtain ⟨l1, l2, l3⟩ := predOk_len hq
    rw [decide_eq_true hq]
    obtain ⟨i, hi⟩ : ∃ i, (ctrI pc hist cs.length).toNat = i := ⟨_, rfl⟩
    obtain ⟨y1, y2⟩ := ctrI_range pc hist cs.length l1
    have hil : i < cs.length := by omega
    rw [hi]
    obtain ⟨x, hx⟩ : ∃ x, gi cs i = x := ⟨_, rfl⟩
    rw [hx]
    have HQ := Lib.hid hq
    clear hq
    cases hd : decide (2 ≤ x)
    all_goals
      go_enter Try.func23, Try.ntmps23
      go_wp2_with fail
      refine (pred_any t h r A c cs hist R _ rc _ HC.out rs rfl hh).mono ?_
      rintro e W ⟨rfl, hb⟩
      rw [decide_eq_true HQ.out]
      obtain ⟨ad, hA, hcell⟩ := RdI.at (Rd.below HC.out hb) i hil
      rw [hx] at hcell
      subst hA
      obtain ⟨s0, s1, s2, s3, s4, s5, _⟩ := box6 (belowBox hb HX.out)
      have hws := hb.size
      obtain ⟨W3, hW3⟩ : ∃ W3, (W.alloc (.cells #[.int .i64 t, .int .i64 h, .int .i64 r, .slice (some ad) cs.length c, .int .u32 hist, .slice R rs.length rc] 104)) = W3 := ⟨_, rfl⟩
      have hc2 : W3.cell? (ad.add i) = some (.int .i64 x) := by rw [← hW3]; exact bkeep (balloc W _) hcell
      obtain ⟨_, _, _, k3, k4, _, _⟩ := box6 (show W3.heap[W.heap.size]? = _ by rw [← hW3]; exact heap_alloc_new W _)
      have hb3 : Below w.heap.size w W3 := by rw [← hW3]; exact (bvia hb0 hb (Nat.le_refl _)).alloc (by have := hb0.size; omega) _
      have HB3 := Lib.hid hb3
      clear hb3
      go_wp2_with fail
      refine (counter_any _ ad cs.length c pc hist l1 hp _ k3 k4 (by omega)).mono ?_
      rintro e W2 ⟨rfl, q, rfl⟩
      rw [hi]
      have hc3 : (W3.drewN q).cell? (ad.add i) = some (.int .i64 x) := hc2
      go_wp2
      go_ret
      exact ⟨rfl, bdrewN HB3.out q⟩
  · rw [decide_eq_false hq]
    go_enter Try.func23, Try.ntmps23
    go_wp2_with fail
    refine (pred_any t h r A c cs hist R _ rc _ HC.out rs rfl hh).mono ?_
    rintro e W ⟨rfl, hb⟩
    rw [decide_eq_false hq]
    clear hq
    go_wp2
    go_ret
    exact ⟨rfl, bvia hb0 hb (Nat.le_refl _)⟩
end Go.Proofs.Ytdkacdfhapgboaa

/- sim.simShape. (printed by gen/shape.py) -/
set_option linter.unusedVariables false
set_option linter.unusedSimpArgs false
namespace Go.Proofs.Ytdkacdfhapgboaa
open Go.RowKit

theorem boxAt {w : World} {b i : Nat} {cs : Array Value} {t : TypeId} {v : Value} (h : w.heap[b]? = some (.cells cs t (0, 0))) (hv : cs[i]? = some v) : w.cell? ⟨b, i, none⟩ = some v := by
  simp [World.cell?, h, hv]
theorem boxFree {w : World} {b i : Nat} {cs : Array Value} {t : TypeId} (h : w.heap[b]? = some (.cells cs t (0, 0))) : w.frozen? ⟨b, i, none⟩ = false := by
  simp [World.frozen?, h]
/-- The shape of a simulated machine, as twelve numbers. -/
structure Cf where
  (il is iw dl ds dw ll ls lw pt ph pr : Int)
def Cf.cells (c : Cf) : List Value := [.int .i64 c.il, .int .i64 c.is, .int .i64 c.iw, .int .i64 c.dl, .int .i64 c.ds, .int .i64 c.dw, .int .i64 c.ll, .int .i64 c.ls, .int .i64 c.lw, .int .i64 c.pt, .int .i64 c.ph, .int .i64 c.pr]
def simShapeB (c : Cf) : Bool := shapeB c.il c.is c.iw && (shapeB c.dl c.ds c.dw && (shapeB c.ll c.ls c.lw && (predShapeB c.pt c.ph c.pr && (decide (c.il ≤ c.ll) && decide (c.dl ≤ c.ll)))))

set_option maxRecDepth 100000 in
set_option maxHeartbeats 1000000 in
theorem simShape_any (il is iw dl ds dw ll ls lw pt ph pr : Int) (w : World) :
    Calls Try.prog 70 #[.agg #[.int .i64 il, .int .i64 is, .int .i64 iw, .int .i64 dl, .int .i64 ds, .int .i64 dw, .int .i64 ll, .int .i64 ls, .int .i64 lw, .int .i64 pt, .int .i64 ph, .int .i64 pr]] w fun e w' => e = .returned (.bool (simShapeB ⟨il, is, iw, dl, ds, dw, ll, ls, lw, pt, ph, pr⟩)) ∧ Below w.heap.size w w' := by
  obtain ⟨W0, hW0⟩ : ∃ W0, w.alloc (.cells #[.int .i64 il, .int .i64 is, .int .i64 iw, .int .i64 dl, .int .i64 ds, .int .i64 dw, .int .i64 ll, .int .i64 ls, .int .i64 lw, .int .i64 pt, .int .i64 ph, .int .i64 pr] 64) = W0 := ⟨_, rfl⟩
  have hb0 : Below w.heap.size w W0 := by rw [← hW0]; exact balloc w _
  have hs0 : w.heap.size ≤ W0.heap.size := hb0.size
  have hx0 : W0.heap[w.heap.size]? = some (.cells #[.int .i64 il, .int .i64 is, .int .i64 iw, .int .i64 dl, .int .i64 ds, .int .i64 dw, .int .i64 ll, .int .i64 ls, .int .i64 lw, .int .i64 pt, .int .i64 ph, .int .i64 pr] 64 (0, 0)) := by rw [← hW0]; exact heap_alloc_new w _
  have HX := Lib.hid hx0
  have HB := Lib.hid hb0
  unfold simShapeB
  obtain ⟨b1, h1⟩ : ∃ b, shapeB il is iw = b := ⟨_, rfl⟩
  obtain ⟨b2, h2⟩ : ∃ b, shapeB dl ds dw = b := ⟨_, rfl⟩
  obtain ⟨b3, h3⟩ : ∃ b, shapeB ll ls lw = b := ⟨_, rfl⟩
  obtain ⟨b4, h4⟩ : ∃ b, predShapeB pt ph pr = b := ⟨_, rfl⟩
  simp only [h1, h2, h3, h4]
  cases b1
  · simp only [Bool.false_and, Bool.true_and]
    clear hx0 hb0
    have c0 := boxAt (i := 0) HX.out rfl
    have c1 := boxAt (i := 1) HX.out rfl
    have c2 := boxAt (i := 2) HX.out rfl
    have c3 := boxAt (i := 3) HX.out rfl
    have c4 := boxAt (i := 4) HX.out rfl
    have c5 := boxAt (i := 5) HX.out rfl
    have c6 := boxAt (i := 6) HX.out rfl
    have c7 := boxAt (i := 7) HX.out rfl
    have c8 := boxAt (i := 8) HX.out rfl
    have c9 := boxAt (i := 9) HX.out rfl
    have c10 := boxAt (i := 10) HX.out rfl
    have c11 := boxAt (i := 11) HX.out rfl
    go_enter Try.func70, Try.ntmps70
    go_wp2_with fail
    refine (shape_any il is iw _).mono ?_
    rintro e W1 ⟨rfl, hb⟩
    rw [h1]
    replace HX := Lib.hid (belowBox hb HX.out)
    replace HB := Lib.hid (bvia HB.out hb (Nat.le_refl _))
    replace hs0 := HB.out.size
    clear c0 c1 c2 c3 c4 c5 c6 c7 c8 c9 c10 c11 hb
    have c0 := boxAt (i := 0) HX.out rfl
    have c1 := boxAt (i := 1) HX.out rfl
    have c2 := boxAt (i := 2) HX.out rfl
    have c3 := boxAt (i := 3) HX.out rfl
    have c4 := boxAt (i := 4) HX.out rfl
    have c5 := boxAt (i := 5) HX.out rfl
    have c6 := boxAt (i := 6) HX.out rfl
    have c7 := boxAt (i := 7) HX.out rfl
    have c8 := boxAt (i := 8) HX.out rfl
    have c9 := boxAt (i := 9) HX.out rfl
    have c10 := boxAt (i := 10) HX.out rfl
    have c11 := boxAt (i := 11) HX.out rfl
    go_wp2
    go_ret
    exact ⟨rfl, HB.out⟩
  · cases b2
    · simp only [Bool.false_and, Bool.true_and]
      clear hx0 hb0
      have c0 := boxAt (i := 0) HX.out rfl
      have c1 := boxAt (i := 1) HX.out rfl
      have c2 := boxAt (i := 2) HX.out rfl
      have c3 := boxAt (i := 3) HX.out rfl
      have c4 := boxAt (i := 4) HX.out rfl
      have c5 := boxAt (i := 5) HX.out rfl
      have c6 := boxAt (i := 6) HX.out rfl
      have c7 := boxAt (i := 7) HX.out rfl
      have c8 := boxAt (i := 8) HX.out rfl
      have c9 := boxAt (i := 9) HX.out rfl
      have c10 := boxAt (i := 10) HX.out rfl
      have c11 := boxAt (i := 11) HX.out rfl
      go_enter Try.func70, Try.ntmps70
      go_wp2_with fail
      refine (shape_any il is iw _).mono ?_
      rintro e W1 ⟨rfl, hb⟩
      rw [h1]
      replace HX := Lib.hid (belowBox hb HX.out)
      replace HB := Lib.hid (bvia HB.out hb (Nat.le_refl _))
      replace hs0 := HB.out.size
      clear c0 c1 c2 c3 c4 c5 c6 c7 c8 c9 c10 c11 hb
      have c0 := boxAt (i := 0) HX.out rfl
      have c1 := boxAt (i := 1) HX.out rfl
      have c2 := boxAt (i := 2) HX.out rfl
      have c3 := boxAt (i := 3) HX.out rfl
      have c4 := boxAt (i := 4) HX.out rfl
      have c5 := boxAt (i := 5) HX.out rfl
      have c6 := boxAt (i := 6) HX.out rfl
      have c7 := boxAt (i := 7) HX.out rfl
      have c8 := boxAt (i := 8) HX.out rfl
      have c9 := boxAt (i := 9) HX.out rfl
      have c10 := boxAt (i := 10) HX.out rfl
      have c11 := boxAt (i := 11) HX.out rfl
      go_wp2_with fail
      refine (shape_any dl ds dw _).mono ?_
      rintro e W2 ⟨rfl, hb⟩
      rw [h2]
      replace HX := Lib.hid (belowBox hb HX.out)
      replace HB := Lib.hid (bvia HB.out hb (Nat.le_refl _))
      replace hs0 := HB.out.size
      clear c0 c1 c2 c3 c4 c5 c6 c7 c8 c9 c10 c11 hb
      have c0 := boxAt (i := 0) HX.out rfl
      have c1 := boxAt (i := 1) HX.out rfl
      have c2 := boxAt (i := 2) HX.out rfl
      have c3 := boxAt (i := 3) HX.out rfl
      have c4 := boxAt (i := 4) HX.out rfl
      have c5 := boxAt (i := 5) HX.out rfl
      have c6 := boxAt (i := 6) HX.out rfl
      have c7 := boxAt (i := 7) HX.out rfl
      have c8 := boxAt (i := 8) HX.out rfl
      have c9 := boxAt (i := 9) HX.out rfl
      have c10 := boxAt (i := 10) HX.out rfl
      have c11 := boxAt (i := 11) HX.out rfl
      go_wp2
      go_ret
      exact ⟨rfl, HB.out⟩
    · cases b3
      · simp only [Bool.false_and, Bool.true_and]
        clear hx0 hb0
        have c0 := boxAt (i := 0) HX.out rfl
        have c1 := boxAt (i := 1) HX.out rfl
        have c2 := boxAt (i := 2) HX.out rfl
        have c3 := boxAt (i := 3) HX.out rfl
        have c4 := boxAt (i := 4) HX.out rfl
        have c5 := boxAt (i := 5) HX.out rfl
        have c6 := boxAt (i := 6) HX.out rfl
        have c7 := boxAt (i := 7) HX.out rfl
        have c8 := boxAt (i := 8) HX.out rfl
        have c9 := boxAt (i := 9) HX.out rfl
        have c10 := boxAt (i := 10) HX.out rfl
        have c11 := boxAt (i := 11) HX.out rfl
        go_enter Try.func70, Try.ntmps70
        go_wp2_with fail
        refine (shape_any il is iw _).mono ?_
        rintro e W1 ⟨rfl, hb⟩
        rw [h1]
        replace HX := Lib.hid (belowBox hb HX.out)
        replace HB := Lib.hid (bvia HB.out hb (Nat.le_refl _))
        replace hs0 := HB.out.size
        clear c0 c1 c2 c3 c4 c5 c6 c7 c8 c9 c10 c11 hb
        have c0 := boxAt (i := 0) HX.out rfl
        have c1 := boxAt (i := 1) HX.out rfl
        have c2 := boxAt (i := 2) HX.out rfl
        have c3 := boxAt (i := 3) HX.out rfl
        have c4 := boxAt (i := 4) HX.out rfl
        have c5 := boxAt (i := 5) HX.out rfl
        have c6 := boxAt (i := 6) HX.out rfl
        have c7 := boxAt (i := 7) HX.out rfl
        have c8 := boxAt (i := 8) HX.out rfl
        have c9 := boxAt (i := 9) HX.out rfl
        have c10 := boxAt (i := 10) HX.out rfl
        have c11 := boxAt (i := 11) HX.out rfl
        go_wp2_with fail
        refine (shape_any dl ds dw _).mono ?_
        rintro e W2 ⟨rfl, hb⟩
        rw [h2]
        replace HX := Lib.hid (belowBox hb HX.out)
        replace HB := Lib.hid (bvia HB.out hb (Nat.le_refl _))
        replace hs0 := HB.out.size
        clear c0 c1 c2 c3 c4 c5 c6 c7 c8 c9 c10 c11 hb
        have c0 := boxAt (i := 0) HX.out rfl
        have c1 := boxAt (i := 1) HX.out rfl
        have c2 := boxAt (i := 2) HX.out rfl
        have c3 := boxAt (i := 3) HX.out rfl
        have c4 := boxAt (i := 4) HX.out rfl
        have c5 := boxAt (i := 5) HX.out rfl
        have c6 := boxAt (i := 6) HX.out rfl
        have c7 := boxAt (i := 7) HX.out rfl
        have c8 := boxAt (i := 8) HX.out rfl
        have c9 := boxAt (i := 9) HX.out rfl
        have c10 := boxAt (i := 10) HX.out rfl
        have c11 := boxAt (i := 11) HX.out rfl
        go_wp2_with fail
        refine (shape_any ll ls lw _).mono ?_
        rintro e W3 ⟨rfl, hb⟩
        rw [h3]
        replace HX := Lib.hid (belowBox hb HX.out)
        replace HB := Lib.hid (bvia HB.out hb (Nat.le_refl _))
        replace hs0 := HB.out.size
        clear c0 c1 c2 c3 c4 c5 c6 c7 c8 c9 c10 c11 hb
        have c0 := boxAt (i := 0) HX.out rfl
        have c1 := boxAt (i := 1) HX.out rfl
        have c2 := boxAt (i := 2) HX.out rfl
        have c3 := boxAt (i := 3) HX.out rfl
        have c4 := boxAt (i := 4) HX.out rfl
        have c5 := boxAt (i := 5) HX.out rfl
        have c6 := boxAt (i := 6) HX.out rfl
        have c7 := boxAt (i := 7) HX.out rfl
        have c8 := boxAt (i := 8) HX.out rfl
        have c9 := boxAt (i := 9) HX.out rfl
        have c10 := boxAt (i := 10) HX.out rfl
        have c11 := boxAt (i := 11) HX.out rfl
        go_wp2
        go_ret
        exact ⟨rfl, HB.out⟩
      · cases b4
        · simp only [Bool.false_and, Bool.true_and]
          clear hx0 hb0
          have c0 := boxAt (i := 0) HX.out rfl
          have c1 := boxAt (i := 1) HX.out rfl
          have c2 := boxAt (i := 2) HX.out rfl
          have c3 := boxAt (i := 3) HX.out rfl
          have c4 := boxAt (i := 4) HX.out rfl
          have c5 := boxAt (i := 5) HX.out rfl
          have c6 := boxAt (i := 6) HX.out rfl
          have c7 := boxAt (i := 7) HX.out rfl
          have c8 := boxAt (i := 8) HX.out rfl
          have c9 := boxAt (i := 9) HX.out rfl
          have c10 := boxAt (i := 10) HX.out rfl
          have c11 := boxAt (i := 11) HX.out rfl
          go_enter Try.func70, Try.ntmps70
          go_wp2_with fail
          refine (shape_any il is iw _).mono ?_
          rintro e W1 ⟨rfl, hb⟩
          rw [h1]
          replace HX := Lib.hid (belowBox hb HX.out)
          replace HB := Lib.hid (bvia HB.out hb (Nat.le_refl _))
          replace hs0 := HB.out.size
          clear c0 c1 c2 c3 c4 c5 c6 c7 c8 c9 c10 c11 hb
          have c0 := boxAt (i := 0) HX.out rfl
          have c1 := boxAt (i := 1) HX.out rfl
          have c2 := boxAt (i := 2) HX.out rfl
          have c3 := boxAt (i := 3) HX.out rfl
          have c4 := boxAt (i := 4) HX.out rfl
          have c5 := boxAt (i := 5) HX.out rfl
          have c6 := boxAt (i := 6) HX.out rfl
          have c7 := boxAt (i := 7) HX.out rfl
          have c8 := boxAt (i := 8) HX.out rfl
          have c9 := boxAt (i := 9) HX.out rfl
          have c10 := boxAt (i := 10) HX.out rfl
          have c11 := boxAt (i := 11) HX.out rfl
          go_wp2_with fail
          refine (shape_any dl ds dw _).mono ?_
          rintro e W2 ⟨rfl, hb⟩
          rw [h2]
          replace HX := Lib.hid (belowBox hb HX.out)
          replace HB := Lib.hid (bvia HB.out hb (Nat.le_refl _))
          replace hs0 := HB.out.size
          clear c0 c1 c2 c3 c4 c5 c6 c7 c8 c9 c10 c11 hb
          have c0 := boxAt (i := 0) HX.out rfl
          have c1 := boxAt (i := 1) HX.out rfl
          have c2 := boxAt (i := 2) HX.out rfl
          have c3 := boxAt (i := 3) HX.out rfl
          have c4 := boxAt (i := 4) HX.out rfl
          have c5 := boxAt (i := 5) HX.out rfl
          have c6 := boxAt (i := 6) HX.out rfl
          have c7 := boxAt (i := 7) HX.out rfl
          have c8 := boxAt (i := 8) HX.out rfl
          have c9 := boxAt (i := 9) HX.out rfl
          have c10 := boxAt (i := 10) HX.out rfl
          have c11 := boxAt (i := 11) HX.out rfl
          go_wp2_with fail
          refine (shape_any ll ls lw _).mono ?_
          rintro e W3 ⟨rfl, hb⟩
          rw [h3]
          replace HX := Lib.hid (belowBox hb HX.out)
          replace HB := Lib.hid (bvia HB.out hb (Nat.le_refl _))
          replace hs0 := HB.out.size
          clear c0 c1 c2 c3 c4 c5 c6 c7 c8 c9 c10 c11 hb
          have c0 := boxAt (i := 0) HX.out rfl
          have c1 := boxAt (i := 1) HX.out rfl
          have c2 := boxAt (i := 2) HX.out rfl
          have c3 := boxAt (i := 3) HX.out rfl
          have c4 := boxAt (i := 4) HX.out rfl
          have c5 := boxAt (i := 5) HX.out rfl
          have c6 := boxAt (i := 6) HX.out rfl
          have c7 := boxAt (i := 7) HX.out rfl
          have c8 := boxAt (i := 8) HX.out rfl
          have c9 := boxAt (i := 9) HX.out rfl
          have c10 := boxAt (i := 10) HX.out rfl
          have c11 := boxAt (i := 11) HX.out rfl
          go_wp2_with fail
          refine (predShape_any pt ph pr _).mono ?_
          rintro e W4 ⟨rfl, hb⟩
          rw [h4]
          replace HX := Lib.hid (belowBox hb HX.out)
          replace HB := Lib.hid (bvia HB.out hb (Nat.le_refl _))
          replace hs0 := HB.out.size
          clear c0 c1 c2 c3 c4 c5 c6 c7 c8 c9 c10 c11 hb
          have c0 := boxAt (i := 0) HX.out rfl
          have c1 := boxAt (i := 1) HX.out rfl
          have c2 := boxAt (i := 2) HX.out rfl
          have c3 := boxAt (i := 3) HX.out rfl
          have c4 := boxAt (i := 4) HX.out rfl
          have c5 := boxAt (i := 5) HX.out rfl
          have c6 := boxAt (i := 6) HX.out rfl
          have c7 := boxAt (i := 7) HX.out rfl
          have c8 := boxAt (i := 8) HX.out rfl
          have c9 := boxAt (i := 9) HX.out rfl
          have c10 := boxAt (i := 10) HX.out rfl
          have c11 := boxAt (i := 11) HX.out rfl
          go_wp2
          go_ret
          exact ⟨rfl, HB.out⟩
        · cases hd1 : decide (il ≤ ll) <;> cases hd2 : decide (dl ≤ ll)
          all_goals
            simp only [Bool.false_and, Bool.true_and]
            clear hx0 hb0
            have c0 := boxAt (i := 0) HX.out rfl
            have c1 := boxAt (i := 1) HX.out rfl
            have c2 := boxAt (i := 2) HX.out rfl
            have c3 := boxAt (i := 3) HX.out rfl
            have c4 := boxAt (i := 4) HX.out rfl
            have c5 := boxAt (i := 5) HX.out rfl
            have c6 := boxAt (i := 6) HX.out rfl
            have c7 := boxAt (i := 7) HX.out rfl
            have c8 := boxAt (i := 8) HX.out rfl
            have c9 := boxAt (i := 9) HX.out rfl
            have c10 := boxAt (i := 10) HX.out rfl
            have c11 := boxAt (i := 11) HX.out rfl
            go_enter Try.func70, Try.ntmps70
            go_wp2_with fail
            refine (shape_any il is iw _).mono ?_
            rintro e W1 ⟨rfl, hb⟩
            rw [h1]
            replace HX := Lib.hid (belowBox hb HX.out)
            replace HB := Lib.hid (bvia HB.out hb (Nat.le_refl _))
            replace hs0 := HB.out.size
            clear c0 c1 c2 c3 c4 c5 c6 c7 c8 c9 c10 c11 hb
            have c0 := boxAt (i := 0) HX.out rfl
            have c1 := boxAt (i := 1) HX.out rfl
            have c2 := boxAt (i := 2) HX.out rfl
            have c3 := boxAt (i := 3) HX.out rfl
            have c4 := boxAt (i := 4) HX.out rfl
            have c5 := boxAt (i := 5) HX.out rfl
            have c6 := boxAt (i := 6) HX.out rfl
            have c7 := boxAt (i := 7) HX.out rfl
            have c8 := boxAt (i := 8) HX.out rfl
            have c9 := boxAt (i := 9) HX.out rfl
            have c10 := boxAt (i := 10) HX.out rfl
            have c11 := boxAt (i := 11) HX.out rfl
            go_wp2_with fail
            refine (shape_any dl ds dw _).mono ?_
            rintro e W2 ⟨rfl, hb⟩
            rw [h2]
            replace HX := Lib.hid (belowBox hb HX.out)
            replace HB := Lib.hid (bvia HB.out hb (Nat.le_refl _))
            replace hs0 := HB.out.size
            clear c0 c1 c2 c3 c4 c5 c6 c7 c8 c9 c10 c11 hb
            have c0 := boxAt (i := 0) HX.out rfl
            have c1 := boxAt (i := 1) HX.out rfl
            have c2 := boxAt (i := 2) HX.out rfl
            have c3 := boxAt (i := 3) HX.out rfl
            have c4 := boxAt (i := 4) HX.out rfl
            have c5 := boxAt (i := 5) HX.out rfl
            have c6 := boxAt (i := 6) HX.out rfl
            have c7 := boxAt (i := 7) HX.out rfl
            have c8 := boxAt (i := 8) HX.out rfl
            have c9 := boxAt (i := 9) HX.out rfl
            have c10 := boxAt (i := 10) HX.out rfl
            have c11 := boxAt (i := 11) HX.out rfl
            go_wp2_with fail
            refine (shape_any ll ls lw _).mono ?_
            rintro e W3 ⟨rfl, hb⟩
            rw [h3]
            replace HX := Lib.hid (belowBox hb HX.out)
            replace HB := Lib.hid (bvia HB.out hb (Nat.le_refl _))
            replace hs0 := HB.out.size
            clear c0 c1 c2 c3 c4 c5 c6 c7 c8 c9 c10 c11 hb
            have c0 := boxAt (i := 0) HX.out rfl
            have c1 := boxAt (i := 1) HX.out rfl
            have c2 := boxAt (i := 2) HX.out rfl
            have c3 := boxAt (i := 3) HX.out rfl
            have c4 := boxAt (i := 4) HX.out rfl
            have c5 := boxAt (i := 5) HX.out rfl
            have c6 := boxAt (i := 6) HX.out rfl
            have c7 := boxAt (i := 7) HX.out rfl
            have c8 := boxAt (i := 8) HX.out rfl
            have c9 := boxAt (i := 9) HX.out rfl
            have c10 := boxAt (i := 10) HX.out rfl
            have c11 := boxAt (i := 11) HX.out rfl
            go_wp2_with fail
            refine (predShape_any pt ph pr _).mono ?_
            rintro e W4 ⟨rfl, hb⟩
            rw [h4]
            replace HX := Lib.hid (belowBox hb HX.out)
            replace HB := Lib.hid (bvia HB.out hb (Nat.le_refl _))
            replace hs0 := HB.out.size
            clear c0 c1 c2 c3 c4 c5 c6 c7 c8 c9 c10 c11 hb
            have c0 := boxAt (i := 0) HX.out rfl
            have c1 := boxAt (i := 1) HX.out rfl
            have c2 := boxAt (i := 2) HX.out rfl
            have c3 := boxAt (i := 3) HX.out rfl
            have c4 := boxAt (i := 4) HX.out rfl
            have c5 := boxAt (i := 5) HX.out rfl
            have c6 := boxAt (i := 6) HX.out rfl
            have c7 := boxAt (i := 7) HX.out rfl
            have c8 := boxAt (i := 8) HX.out rfl
            have c9 := boxAt (i := 9) HX.out rfl
            have c10 := boxAt (i := 10) HX.out rfl
            have c11 := boxAt (i := 11) HX.out rfl
            go_wp2
            go_ret
            exact ⟨rfl, HB.out⟩

end Go.Proofs.Ytdkacdfhapgboaa

/- sim.New. (printed by gen/new.py) -/
set_option linter.unusedVariables false
set_option linter.unusedSimpArgs false
namespace Go.Proofs.Ytdkacdfhapgboaa
open Go.RowKit

/-- Cells stored one after the other. -/
def putC (W : World) (b : Nat) : Nat → List Value → World
  | _, [] => W
  | i, v :: vs => putC (W.setCell ⟨b, i, none⟩ v) b (i + 1) vs
theorem putC_upd (b : Nat) : ∀ (vs : List Value) (i : Nat) (W : World), Upd (fun k => k = b) W (putC W b i vs)
  | [], _, W => Upd.refl _ W
  | v :: vs, i, W => (Upd.setCell W ⟨b, i, none⟩ v).trans (putC_upd b vs (i + 1) _) fun _ h => .inl h
theorem putC_heap (b : Nat) (t : TypeId) : ∀ (vs : List Value) (i : Nat) (W : World) (pre post : List Value), pre.length = i → post.length = vs.length → W.heap[b]? = some (.cells (pre ++ post).toArray t (0, 0)) → (putC W b i vs).heap[b]? = some (.cells (pre ++ vs).toArray t (0, 0))
  | [], i, W, pre, post, _, hp, h => by
    have : post = [] := List.eq_nil_of_length_eq_zero hp
    subst this
    exact h
  | v :: vs, i, W, pre, [], _, hp, h => by simp at hp
  | v :: vs, i, W, pre, p :: post, hl, hp, h => by
    have h2 := putC_heap b t vs (i + 1) (W.setCell ⟨b, i, none⟩ v) (pre ++ [v]) post (by simp [hl]) (by simpa using hp) (by
      rw [set1_heap h i v]
      subst hl
      simp)
    simpa [putC] using h2
theorem putC_cells {W : World} {b : Nat} {t : TypeId} {cs : Array Value} (vs : List Value) (h : W.heap[b]? = some (.cells cs t (0, 0))) (hl : cs.size = vs.length) : (putC W b 0 vs).heap[b]? = some (.cells vs.toArray t (0, 0)) := by
  have := putC_heap b t vs 0 W [] cs.toList rfl (by simpa using hl) (by simpa using h)
  simpa using this
/-- Several cells stored, as the walk spells it. -/
def storedAll (P : Program) (b : Nat) : Nat → Value → List Value → World → Result Unit
  | i, v, [], w => stored P w ⟨b, i, none⟩ v .plain
  | i, v, v' :: vs, w => (stored P w ⟨b, i, none⟩ v .plain).andThen fun _ w' => storedAll P b (i + 1) v' vs w'
theorem storedAll_pre {P : Program} (b : Nat) (t : TypeId) : ∀ (vs : List Value) (v : Value) (i : Nat) (W : World) (pre post : List Value), pre.length = i → post.length = vs.length + 1 → W.heap[b]? = some (.cells (pre ++ post).toArray t (0, 0)) → storedAll P b i v vs W = .ok () (putC W b i (v :: vs))
  | vs, v, i, W, pre, [], _, hp, h => by simp at hp
  | [], v, i, W, pre, p :: post, hl, hp, h => by
    have hc : W.cell? ⟨b, i, none⟩ = some p := boxAt h (by subst hl; simp)
    have hf : W.frozen? ⟨b, i, none⟩ = false := boxFree h
    simp [storedAll, stored, hc, hf, putC]
  | v' :: vs, v, i, W, pre, p :: post, hl, hp, h => by
    have hc : W.cell? ⟨b, i, none⟩ = some p := boxAt h (by subst hl; simp)
    have hf : W.frozen? ⟨b, i, none⟩ = false := boxFree h
    have hs : stored P W ⟨b, i, none⟩ v .plain = .ok () (W.setCell ⟨b, i, none⟩ v) := by simp [stored, hc, hf]
    simp only [storedAll, hs, Result.andThen_ok]
    exact storedAll_pre b t vs v' (i + 1) (W.setCell ⟨b, i, none⟩ v) (pre ++ [v]) post (by simp [hl]) (by simpa using hp) (by
      rw [set1_heap h i v]
      subst hl
      simp)
theorem storedAll_row {P : Program} {W : World} {b : Nat} {t : TypeId} {cs : Array Value} (v : Value) (vs : List Value) (h : W.heap[b]? = some (.cells cs t (0, 0))) (hl : cs.size = vs.length + 1) : storedAll P b 0 v vs W = .ok () (putC W b 0 (v :: vs)) :=
  storedAll_pre b t vs v 0 W [] cs.toList rfl (by simpa using hl) (by simpa using h)
theorem upon_skip {P : Program} {o : Oper} {a : Act} {K : Act → World → Prop} {Q : Exit → Act → World → Prop} {R : Result Unit} {W' : World} (hR : R = .ok () W') (h : K (a.put o.dst undef) W') : Oper.upon P o a K Q (R.andThen fun _ w' => Result.ok Next.skip w') := by
  subst hR
  exact h
theorem Upd.setRow (W : World) (g : Nat) (cs : Array Value) : Upd (fun k => k = g) W (W.setRow g cs) :=
  ⟨rfl, rfl, rfl, by simp, fun k _ hk => setRow_other W g k _ (fun e => hk (by simp [e]))⟩
theorem setRow_heap {W : World} {g : Nat} {c : Array Value} {t : TypeId} (h : W.heap[g]? = some (.cells c t (0, 0))) (cs : Array Value) : (W.setRow g cs).heap[g]? = some (.cells cs t (0, 0)) := by
  obtain ⟨hb, e⟩ := Array.getElem?_eq_some_iff.1 h
  simp [World.setRow, e, hb, Array.getElem_modify, Array.getElem?_modify]
theorem simShapeB_parts {c : Cf} (h : simShapeB c = true) : shapeB c.il c.is c.iw = true ∧ shapeB c.dl c.ds c.dw = true ∧ shapeB c.ll c.ls c.lw = true ∧ predShapeB c.pt c.ph c.pr = true ∧ c.il ≤ c.ll ∧ c.dl ≤ c.ll := by
  simp only [simShapeB, Bool.and_eq_true, decide_eq_true_eq] at h
  exact h

abbrev zeroS : Obj := .cells #[.int .i64 0, .int .i64 0, .int .i64 0, .int .i64 0, .int .i64 0, .int .i64 0, .int .i64 0, .int .i64 0, .int .i64 0, .int .i64 0, .int .i64 0, .int .i64 0, .int .i64 0, .int .i64 0, .int .i64 0, .slice none 0 0, .int .i64 0, .int .i64 0, .int .i64 0, .slice none 0 0, .int .i64 0, .int .i64 0, .int .i64 0, .slice none 0 0, .int .i64 0, .int .i64 0, .int .i64 0, .slice none 0 0, .int .u32 0, .slice none 0 0, .slice none 0 0] 67
attribute [local irreducible] World.setCell in
set_option maxRecDepth 100000 in
set_option maxHeartbeats 2000000 in
theorem New_ok (il iw dl dw ll lw ph pr : Int) (ni nd nl t : Nat) (w : World) (hs : simShapeB ⟨il, ni, iw, dl, nd, dw, ll, nl, lw, t, ph, pr⟩ = true) :
    Calls Try.prog 31 #[.agg #[.int .i64 il, .int .i64 (ni : Int), .int .i64 iw, .int .i64 dl, .int .i64 (nd : Int), .int .i64 dw, .int .i64 ll, .int .i64 (nl : Int), .int .i64 lw, .int .i64 (t : Int), .int .i64 ph, .int .i64 pr]] w fun e w' => ∃ gi gd gl gp, e = .returned (.tuple #[.agg #[.int .i64 il, .int .i64 (ni : Int), .int .i64 iw, .int .i64 dl, .int .i64 (nd : Int), .int .i64 dw, .int .i64 ll, .int .i64 (nl : Int), .int .i64 lw, .int .i64 (t : Int), .int .i64 ph, .int .i64 pr, .int .i64 il, .int .i64 (ni : Int), .int .i64 iw, .slice (some ⟨gi, 0, none⟩) ni ni, .int .i64 dl, .int .i64 (nd : Int), .int .i64 dw, .slice (some ⟨gd, 0, none⟩) nd nd, .int .i64 ll, .int .i64 (nl : Int), .int .i64 lw, .slice (some ⟨gl, 0, none⟩) nl nl, .int .i64 (t : Int), .int .i64 ph, .int .i64 pr, .slice (some ⟨gp, 0, none⟩) (2 ^ t) (2 ^ t), .int .u32 0, .slice none 0 0, .slice none 0 0], .int .i64 0]) ∧
      OwnSets w' w.heap.size gi ni (List.replicate ni (.slice none 0 0)) (List.replicate ni []) ∧ OwnSets w' w.heap.size gd nd (List.replicate nd (.slice none 0 0)) (List.replicate nd []) ∧ OwnSets w' w.heap.size gl nl (List.replicate nl (.slice none 0 0)) (List.replicate nl []) ∧
      w'.ownsRow w.heap.size 3 1 (.slice (some ⟨gp, 0, none⟩) (2 ^ t) (2 ^ t)) (2 ^ t) (List.replicate (2 ^ t) (.int .i64 1)) ∧ Below w.heap.size w w' := by
  obtain ⟨s1, s2, s3, s4, _, _⟩ := simShapeB_parts hs
  obtain ⟨_, _, _, m1, _, _⟩ := shapeB_line s1
  obtain ⟨_, _, _, m2, _, _⟩ := shapeB_line s2
  obtain ⟨_, _, _, m3, _, _⟩ := shapeB_line s3
  have ht := (predShapeB_le s4).2.1
  dsimp only at m1 m2 m3 ht
  obtain ⟨W0, hW0⟩ : ∃ W0, (w.alloc (.cells #[.int .i64 il, .int .i64 (ni : Int), .int .i64 iw, .int .i64 dl, .int .i64 (nd : Int), .int .i64 dw, .int .i64 ll, .int .i64 (nl : Int), .int .i64 lw, .int .i64 (t : Int), .int .i64 ph, .int .i64 pr] 64)).alloc zeroS = W0 := ⟨_, rfl⟩
  have hb0 : Below w.heap.size w W0 := by rw [← hW0]; exact ((Below.refl _ _).alloc (Nat.le_refl _) _).alloc (by simp) _
  have hx0 : W0.heap[w.heap.size]? = some (.cells #[.int .i64 il, .int .i64 (ni : Int), .int .i64 iw, .int .i64 dl, .int .i64 (nd : Int), .int .i64 dw, .int .i64 ll, .int .i64 (nl : Int), .int .i64 lw, .int .i64 (t : Int), .int .i64 ph, .int .i64 pr] 64 (0, 0)) := by rw [← hW0]; exact (heap_alloc_old _ _ (by simp)).trans (heap_alloc_new w _)
  have hx1 : W0.heap[w.heap.size + 1]? = some zeroS := by rw [← hW0]; exact alloc_at _ _ _ (by simp)
  have hsz : W0.heap.size = w.heap.size + 2 := by rw [← hW0]; simp
  have c0 := boxAt (i := 0) hx0 rfl
  have c1 := boxAt (i := 1) hx0 rfl
  have c2 := boxAt (i := 2) hx0 rfl
  have c3 := boxAt (i := 3) hx0 rfl
  have c4 := boxAt (i := 4) hx0 rfl
  have c5 := boxAt (i := 5) hx0 rfl
  have c6 := boxAt (i := 6) hx0 rfl
  have c7 := boxAt (i := 7) hx0 rfl
  have c8 := boxAt (i := 8) hx0 rfl
  have c9 := boxAt (i := 9) hx0 rfl
  have c10 := boxAt (i := 10) hx0 rfl
  have c11 := boxAt (i := 11) hx0 rfl
  have HX0 := Lib.hid hx0
  have HX1 := Lib.hid hx1
  clear hx0 hx1
  go_enter Try.func31, Try.ntmps31
  go_wp2_with fail
  refine (simShape_any il ni iw dl nd dw ll nl lw t ph pr _).mono ?_
  rintro e W ⟨rfl, hb⟩
  rw [hs]
  have hws := hb.size
  have kq : ∀ W', Below W.heap.size W W' → W'.cell? ⟨w.heap.size, 0, none⟩ = some (.int .i64 il) ∧ W'.cell? ⟨w.heap.size, 1, none⟩ = some (.int .i64 (ni : Int)) ∧ W'.cell? ⟨w.heap.size, 2, none⟩ = some (.int .i64 iw) ∧ W'.cell? ⟨w.heap.size, 3, none⟩ = some (.int .i64 dl) ∧ W'.cell? ⟨w.heap.size, 4, none⟩ = some (.int .i64 (nd : Int)) ∧ W'.cell? ⟨w.heap.size, 5, none⟩ = some (.int .i64 dw) ∧ W'.cell? ⟨w.heap.size, 6, none⟩ = some (.int .i64 ll) ∧ W'.cell? ⟨w.heap.size, 7, none⟩ = some (.int .i64 (nl : Int)) ∧ W'.cell? ⟨w.heap.size, 8, none⟩ = some (.int .i64 lw) ∧ W'.cell? ⟨w.heap.size, 9, none⟩ = some (.int .i64 (t : Int)) ∧ W'.cell? ⟨w.heap.size, 10, none⟩ = some (.int .i64 ph) ∧ W'.cell? ⟨w.heap.size, 11, none⟩ = some (.int .i64 pr) := fun W' h' => ⟨bkeep h' (bkeep hb c0), bkeep h' (bkeep hb c1), bkeep h' (bkeep hb c2), bkeep h' (bkeep hb c3), bkeep h' (bkeep hb c4), bkeep h' (bkeep hb c5), bkeep h' (bkeep hb c6), bkeep h' (bkeep hb c7), bkeep h' (bkeep hb c8), bkeep h' (bkeep hb c9), bkeep h' (bkeep hb c10), bkeep h' (bkeep hb c11)⟩
  have kq2 : ∀ W1 W', Below W.heap.size W W1 → Upd (fun k => k = w.heap.size + 1) W1 W' → W'.cell? ⟨w.heap.size, 0, none⟩ = some (.int .i64 il) ∧ W'.cell? ⟨w.heap.size, 1, none⟩ = some (.int .i64 (ni : Int)) ∧ W'.cell? ⟨w.heap.size, 2, none⟩ = some (.int .i64 iw) ∧ W'.cell? ⟨w.heap.size, 3, none⟩ = some (.int .i64 dl) ∧ W'.cell? ⟨w.heap.size, 4, none⟩ = some (.int .i64 (nd : Int)) ∧ W'.cell? ⟨w.heap.size, 5, none⟩ = some (.int .i64 dw) ∧ W'.cell? ⟨w.heap.size, 6, none⟩ = some (.int .i64 ll) ∧ W'.cell? ⟨w.heap.size, 7, none⟩ = some (.int .i64 (nl : Int)) ∧ W'.cell? ⟨w.heap.size, 8, none⟩ = some (.int .i64 lw) ∧ W'.cell? ⟨w.heap.size, 9, none⟩ = some (.int .i64 (t : Int)) ∧ W'.cell? ⟨w.heap.size, 10, none⟩ = some (.int .i64 ph) ∧ W'.cell? ⟨w.heap.size, 11, none⟩ = some (.int .i64 pr) := fun W1 W' h1 hu => by
    obtain ⟨k0, k1, k2, k3, k4, k5, k6, k7, k8, k9, k10, k11⟩ := kq W1 h1
    exact ⟨cell_upd hu k0 (by omega), cell_upd hu k1 (by omega), cell_upd hu k2 (by omega), cell_upd hu k3 (by omega), cell_upd hu k4 (by omega), cell_upd hu k5 (by omega), cell_upd hu k6 (by omega), cell_upd hu k7 (by omega), cell_upd hu k8 (by omega), cell_upd hu k9 (by omega), cell_upd hu k10 (by omega), cell_upd hu k11 (by omega)⟩
  obtain ⟨k0, k1, k2, k3, k4, k5, k6, k7, k8, k9, k10, k11⟩ := kq W (Below.refl _ _)
  have hbd : Below W.heap.size W W.drew := bdrewN (Below.refl _ _) 1
  clear c0 c1 c2 c3 c4 c5 c6 c7 c8 c9 c10 c11
  go_wp2_with fail
  go_region_held3 (fun W' => W'.cell? ⟨w.heap.size, 0, none⟩ = some (.int .i64 il) ∧ W'.cell? ⟨w.heap.size, 1, none⟩ = some (.int .i64 (ni : Int)) ∧ W'.cell? ⟨w.heap.size, 2, none⟩ = some (.int .i64 iw) ∧ W'.cell? ⟨w.heap.size, 3, none⟩ = some (.int .i64 dl) ∧ W'.cell? ⟨w.heap.size, 4, none⟩ = some (.int .i64 (nd : Int)) ∧ W'.cell? ⟨w.heap.size, 5, none⟩ = some (.int .i64 dw) ∧ W'.cell? ⟨w.heap.size, 6, none⟩ = some (.int .i64 ll) ∧ W'.cell? ⟨w.heap.size, 7, none⟩ = some (.int .i64 (nl : Int)) ∧ W'.cell? ⟨w.heap.size, 8, none⟩ = some (.int .i64 lw) ∧ W'.cell? ⟨w.heap.size, 9, none⟩ = some (.int .i64 (t : Int)) ∧ W'.cell? ⟨w.heap.size, 10, none⟩ = some (.int .i64 ph) ∧ W'.cell? ⟨w.heap.size, 11, none⟩ = some (.int .i64 pr)) (first | exact kq _ (Below.refl _ _) | exact kq _ hbd | exact kq _ hb2 | exact kq _ hb3 | exact kq _ hb4 | exact kq _ hb5 | exact kq2 _ _ hb5 hu6)
    (first
      | (go_at_call 71; refine (empty_any il iw ni (by omega) W.drew).mono ?_; rintro e W2 ⟨gi, rfl, ho2, hc2⟩; have hb2 := hbd.trans (hc2.mono (Nat.le_refl _)))
      | (go_at_call 71; refine (empty_any dl dw nd (by omega) W2).mono ?_; rintro e W3 ⟨gd, rfl, ho3, hc3⟩; have hb3 := hb2.trans (hc3.mono hb2.size))
      | (go_at_call 71; refine (empty_any ll lw nl (by omega) W3).mono ?_; rintro e W4 ⟨gl, rfl, ho4, hc4⟩; have hb4 := hb3.trans (hc4.mono hb3.size))
      | (go_at_call 45; refine (newPred_any t ph pr (by omega) W4).mono ?_; rintro e W5 ⟨gp, rfl, ho5, hc5⟩; have hb5 := hb4.trans (hc5.mono hb4.size); have hz := Lib.hid (belowBox hb5 (belowBox hb HX1.out)))
      | (with_reducible refine upon_skip (W' := putC W5 (w.heap.size + 1) 0 [.int .i64 il, .int .i64 (ni : Int), .int .i64 iw, .int .i64 dl, .int .i64 (nd : Int), .int .i64 dw, .int .i64 ll, .int .i64 (nl : Int), .int .i64 lw, .int .i64 (t : Int), .int .i64 ph, .int .i64 pr, .int .i64 il, .int .i64 (ni : Int), .int .i64 iw, .slice (some ⟨gi, 0, none⟩) ni ni, .int .i64 dl, .int .i64 (nd : Int), .int .i64 dw, .slice (some ⟨gd, 0, none⟩) nd nd, .int .i64 ll, .int .i64 (nl : Int), .int .i64 lw, .slice (some ⟨gl, 0, none⟩) nl nl, .int .i64 (t : Int), .int .i64 ph, .int .i64 pr, .slice (some ⟨gp, 0, none⟩) (2 ^ t) (2 ^ t), .int .u32 0, .slice none 0 0, .slice none 0 0]) ?_ ?_; (have hX := storedAll_row (P := Try.prog) (.int .i64 il) [.int .i64 (ni : Int), .int .i64 iw, .int .i64 dl, .int .i64 (nd : Int), .int .i64 dw, .int .i64 ll, .int .i64 (nl : Int), .int .i64 lw, .int .i64 (t : Int), .int .i64 ph, .int .i64 pr, .int .i64 il, .int .i64 (ni : Int), .int .i64 iw, .slice (some ⟨gi, 0, none⟩) ni ni, .int .i64 dl, .int .i64 (nd : Int), .int .i64 dw, .slice (some ⟨gd, 0, none⟩) nd nd, .int .i64 ll, .int .i64 (nl : Int), .int .i64 lw, .slice (some ⟨gl, 0, none⟩) nl nl, .int .i64 (t : Int), .int .i64 ph, .int .i64 pr, .slice (some ⟨gp, 0, none⟩) (2 ^ t) (2 ^ t), .int .u32 0, .slice none 0 0, .slice none 0 0] hz.out rfl; simp only [storedAll, stored] at hX; exact hX); have hu6 := putC_upd (w.heap.size + 1) [.int .i64 il, .int .i64 (ni : Int), .int .i64 iw, .int .i64 dl, .int .i64 (nd : Int), .int .i64 dw, .int .i64 ll, .int .i64 (nl : Int), .int .i64 lw, .int .i64 (t : Int), .int .i64 ph, .int .i64 pr, .int .i64 il, .int .i64 (ni : Int), .int .i64 iw, .slice (some ⟨gi, 0, none⟩) ni ni, .int .i64 dl, .int .i64 (nd : Int), .int .i64 dw, .slice (some ⟨gd, 0, none⟩) nd nd, .int .i64 ll, .int .i64 (nl : Int), .int .i64 lw, .slice (some ⟨gl, 0, none⟩) nl nl, .int .i64 (t : Int), .int .i64 ph, .int .i64 pr, .slice (some ⟨gp, 0, none⟩) (2 ^ t) (2 ^ t), .int .u32 0, .slice none 0 0, .slice none 0 0] 0 W5; have hz6 := Lib.hid (putC_cells [.int .i64 il, .int .i64 (ni : Int), .int .i64 iw, .int .i64 dl, .int .i64 (nd : Int), .int .i64 dw, .int .i64 ll, .int .i64 (nl : Int), .int .i64 lw, .int .i64 (t : Int), .int .i64 ph, .int .i64 pr, .int .i64 il, .int .i64 (ni : Int), .int .i64 iw, .slice (some ⟨gi, 0, none⟩) ni ni, .int .i64 dl, .int .i64 (nd : Int), .int .i64 dw, .slice (some ⟨gd, 0, none⟩) nd nd, .int .i64 ll, .int .i64 (nl : Int), .int .i64 lw, .slice (some ⟨gl, 0, none⟩) nl nl, .int .i64 (t : Int), .int .i64 ph, .int .i64 pr, .slice (some ⟨gp, 0, none⟩) (2 ^ t) (2 ^ t), .int .u32 0, .slice none 0 0, .slice none 0 0] hz.out rfl); generalize putC W5 (w.heap.size + 1) 0 [.int .i64 il, .int .i64 (ni : Int), .int .i64 iw, .int .i64 dl, .int .i64 (nd : Int), .int .i64 dw, .int .i64 ll, .int .i64 (nl : Int), .int .i64 lw, .int .i64 (t : Int), .int .i64 ph, .int .i64 pr, .int .i64 il, .int .i64 (ni : Int), .int .i64 iw, .slice (some ⟨gi, 0, none⟩) ni ni, .int .i64 dl, .int .i64 (nd : Int), .int .i64 dw, .slice (some ⟨gd, 0, none⟩) nd nd, .int .i64 ll, .int .i64 (nl : Int), .int .i64 lw, .slice (some ⟨gl, 0, none⟩) nl nl, .int .i64 (t : Int), .int .i64 ph, .int .i64 pr, .slice (some ⟨gp, 0, none⟩) (2 ^ t) (2 ^ t), .int .u32 0, .slice none 0 0, .slice none 0 0] = W6 at hu6 hz6 ⊢))
  have hw2 := hc2.size
  have hw3 := hc3.size
  have hw4 := hc4.size
  have hw5 := hc5.size
  have hwd : W.drew.heap.size = W.heap.size := rfl
  have b4 : Below W4.heap.size W4 W5 := hc5
  have b3 : Below W3.heap.size W3 W5 := hc4.trans (b4.mono hw4)
  have b2 : Below W2.heap.size W2 W5 := hc3.trans (b3.mono hw3)
  have u2 : Upd (fun k => W2.heap.size ≤ k ∨ k = w.heap.size + 1) W2 W6 := ((Upd.of_below b2).mono fun _ h => .inl h).trans (hu6.mono fun _ h => .inr h) fun _ h => .inl h
  have u3 : Upd (fun k => W3.heap.size ≤ k ∨ k = w.heap.size + 1) W3 W6 := ((Upd.of_below b3).mono fun _ h => .inl h).trans (hu6.mono fun _ h => .inr h) fun _ h => .inl h
  have u4 : Upd (fun k => W4.heap.size ≤ k ∨ k = w.heap.size + 1) W4 W6 := ((Upd.of_below b4).mono fun _ h => .inl h).trans (hu6.mono fun _ h => .inr h) fun _ h => .inl h
  have o2 : OwnSets W6 w.heap.size gi ni _ _ := (ho2.upd u2 fun k hk e => by have := ho2.foot_lt k hk; omega).base fun k hk => by have := (ho2.foot_lt k hk).1; omega
  have o3 : OwnSets W6 w.heap.size gd nd _ _ := (ho3.upd u3 fun k hk e => by have := ho3.foot_lt k hk; omega).base fun k hk => by have := (ho3.foot_lt k hk).1; omega
  have o4 : OwnSets W6 w.heap.size gl nl _ _ := (ho4.upd u4 fun k hk e => by have := ho4.foot_lt k hk; omega).base fun k hk => by have := (ho4.foot_lt k hk).1; omega
  have o5 := own_base' (B' := w.heap.size) (own_upd ho5 hu6 fun k hk e => by have := (ho5.lt k hk).1; omega) fun k hk => by have := (ho5.lt k hk).1; omega
  have hbw : Below w.heap.size w W6 := (hb0.trans ((hb.trans (hb5.mono hws)).mono (by omega))).trans (hu6.below (by omega) fun k hk => by omega)
  have HO2 := Lib.hid o2
  have HO3 := Lib.hid o3
  have HO4 := Lib.hid o4
  have HO5 := Lib.hid o5
  have HBW := Lib.hid hbw
  clear o2 o3 o4 o5 hbw u2 u3 u4 b2 b3 b4 ho2 ho3 ho4 ho5 hc2 hc3 hc4 hc5 hb2 hb3 hb4 hb5 hu6
  go_wp2
  (try simp only [Exit.inBlock, Exit.then])
  refine bodyPost_ret (v := .tuple #[.agg #[.int .i64 il, .int .i64 (ni : Int), .int .i64 iw, .int .i64 dl, .int .i64 (nd : Int), .int .i64 dw, .int .i64 ll, .int .i64 (nl : Int), .int .i64 lw, .int .i64 (t : Int), .int .i64 ph, .int .i64 pr, .int .i64 il, .int .i64 (ni : Int), .int .i64 iw, .slice (some ⟨gi, 0, none⟩) ni ni, .int .i64 dl, .int .i64 (nd : Int), .int .i64 dw, .slice (some ⟨gd, 0, none⟩) nd nd, .int .i64 ll, .int .i64 (nl : Int), .int .i64 lw, .slice (some ⟨gl, 0, none⟩) nl nl, .int .i64 (t : Int), .int .i64 ph, .int .i64 pr, .slice (some ⟨gp, 0, none⟩) (2 ^ t) (2 ^ t), .int .u32 0, .slice none 0 0, .slice none 0 0], .int .i64 0]) (results_cell2 rfl rfl rfl (run_loadVar_row (P := Try.prog) _ _ 67 67 _ (0, 0) _ hz6.out Try.underlying67 rfl (by kernel_rfl))) rfl ?_
  exact ⟨gi, gd, gl, gp, rfl, HO2.out, HO3.out, HO4.out, HO5.out, HBW.out⟩
end Go.Proofs.Ytdkacdfhapgboaa

/- sim.numbers: the addresses of thirteen numbers. -/
set_option linter.unusedVariables false
set_option linter.unusedSimpArgs false
namespace Go.Proofs.Ytdkacdfhapgboaa
open Go.RowKit

/-- The addresses of the numbers behind a PC at ⟨b, o⟩. -/
def ptrs (b o : Nat) : List Value := (List.range 13).map fun j => .pointer (some ⟨b, o + (j + 1), none⟩)
set_option maxRecDepth 100000 in
set_option maxHeartbeats 1000000 in
theorem numbers_any (b o : Nat) (w : World) :
    Calls Try.prog 66 #[.pointer (some ⟨b, o, none⟩)] w fun e w' => e = .returned (.slice (some ⟨w.heap.size, 0, none⟩) 13 13) ∧ w'.heap[w.heap.size]? = some (.cells (ptrs b o).toArray 101 (0, 0)) ∧ w'.heap.size = w.heap.size + 1 ∧ Below w.heap.size w w' := by
  go_enter Try.func66, Try.ntmps66
  go_wp2_with fail
  go_still_tail 39, (by kernel_rfl)
  go_wp2
  go_ret
  exact ⟨rfl, heap_alloc_new w _, by simp [World.drew], bdrewN (balloc w _) 1⟩
end Go.Proofs.Ytdkacdfhapgboaa

/- slices.IndexFunc, ContainsFunc at []*int with the tests of sim.sim and sim.Feed. (printed by gen/numsi.py) -/
set_option linter.unusedVariables false
set_option linter.unusedSimpArgs false
namespace Go.Proofs.Ytdkacdfhapgboaa
open Go.RowKit

/-- Thirteen numbers, by their addresses. -/
structure NumRd (w : World) (r b o : Nat) (xs : List Int) : Prop where
  len : xs.length = 13
  row : w.heap[r]? = some (.cells (ptrs b o).toArray 101 (0, 0))
  cell : ∀ j, j < 13 → w.cell? ⟨b, o + (j + 1), none⟩ = some (.int .i64 (gi xs j))
theorem NumRd.ptr {w : World} {r b o : Nat} {xs : List Int} (h : NumRd w r b o xs) (j : Nat) (hj : j < 13) : w.cell? ⟨r, j, none⟩ = some (.pointer (some ⟨b, o + (j + 1), none⟩)) :=
  boxAt h.row (by simp [ptrs, hj])
theorem NumRd.below {w W : World} {r b o : Nat} {xs : List Int} (h : NumRd w r b o xs) (hb : Below w.heap.size w W) : NumRd W r b o xs :=
  ⟨h.len, belowBox hb h.row, fun j hj => bkeep hb (h.cell j hj)⟩
/-- The first place at which a test says yes, -1: none. -/
def fstI (T : Int → Bool) (xs : List Int) : Int := if xs.any T then (xs.findIdx T : Int) else -1
theorem fstI_at (T : Int → Bool) (xs : List Int) (k : Nat) (hk : k < xs.length) (h : ∀ j, j < k → T (gi xs j) = false) (hx : T (gi xs k) = true) : fstI T xs = k := by
  have ha : xs.any T = true := List.any_eq_true.2 ⟨_, gi_mem xs k hk, hx⟩
  unfold fstI
  rw [if_pos ha]
  have : xs.findIdx T = k := by
    rw [List.findIdx_eq hk]
    rw [gi_get xs k hk] at hx
    exact ⟨hx, fun j hj => by have := h j hj; rwa [gi_get xs j (by omega)] at this⟩
  rw [this]
theorem fstI_none (T : Int → Bool) (xs : List Int) (h : ∀ j, j < xs.length → T (gi xs j) = false) : fstI T xs = -1 := by
  unfold fstI
  rw [if_neg]
  intro ha
  obtain ⟨x, hm, hx⟩ := List.any_eq_true.1 ha
  obtain ⟨j, hj, e⟩ := List.getElem_of_mem hm
  have := h j hj
  rw [gi_get xs j hj, e, hx] at this
  cases this
theorem fstI_nonneg (T : Int → Bool) (xs : List Int) : decide (0 ≤ fstI T xs) = xs.any T := by
  unfold fstI
  cases h : xs.any T <;> simp

def bigN (x : Int) : Bool := decide (x < 0) || decide (1099511627776 < x)
def overN (x : Int) : Bool := decide (1099511627776 < x)
set_option maxHeartbeats 400000 in
theorem sim1_any (p : Addr) (x : Int) (w : World) (hc : w.cell? p = some (.int .i64 x)) : Calls Try.prog 78 #[.pointer (some p)] w fun e w' => e = .returned (.bool (bigN x)) ∧ w = w' := by
  cases h1 : decide (x < 0) <;> cases h2 : decide (1099511627776 < x)
  all_goals
    go_enter Try.func78, Try.ntmps78
    go_wp2
    go_ret
    exact ⟨by simp [bigN, h1, h2], rfl⟩
set_option maxHeartbeats 400000 in
theorem feed1_any (p : Addr) (x : Int) (w : World) (hc : w.cell? p = some (.int .i64 x)) : Calls Try.prog 67 #[.pointer (some p)] w fun e w' => e = .returned (.bool (overN x)) ∧ w = w' := by
  cases h2 : decide (1099511627776 < x)
  all_goals
    go_enter Try.func67, Try.ntmps67
    go_wp2
    go_ret
    exact ⟨by simp [overN, h2], rfl⟩

set_option maxHeartbeats 400000 in
theorem indexFunc_sim (r b o : Nat) (xs : List Int) (w : World) (h : NumRd w r b o xs) :
    Calls Try.prog 92 #[.slice (some ⟨r, 0, none⟩) 13 13, .func (.func 78) #[] #[]] w fun e w' => e = .returned (.int .i64 (fstI bigN xs)) ∧ w = w' := by
  have H := Lib.hid h
  clear h
  go_enter Try.func92, Try.ntmps92
  go_wp2
  go_loop [8] (fun i => ∃ k : Nat, k ≤ 13 ∧ i = .int .i64 k ∧ Hid (∀ j, j < k → bigN (gi xs j) = false)) (fun i => 13 - (intOf i).toNat)
  case atStart => exact ⟨0, Nat.zero_le _, rfl, Lib.hid (fun j hj => absurd hj (Nat.not_lt_zero _))⟩
  case round =>
    obtain ⟨k, hk, rfl, hne⟩ := hrel
    by_cases hlt : k < 13
    · have hp := H.out.ptr k hlt
      have hc := H.out.cell k hlt
      cases hx : bigN (gi xs k)
      · go_wp2_with (go_at_call 78; refine (sim1_any _ _ _ hc).mono ?_; rintro e w' ⟨rfl, rfl⟩; rw [hx])
        go_round
        case rel => exact ⟨k + 1, by omega, by go_num, fun j hj => by rcases Nat.lt_succ_iff_lt_or_eq.1 hj with h | rfl; exact hne.out j h; exact hx⟩
        case measure => simp [intOf]; omega
      · go_wp2_with (go_at_call 78; refine (sim1_any _ _ _ hc).mono ?_; rintro e w' ⟨rfl, rfl⟩; rw [hx])
        go_ret
        refine ⟨?_, rfl⟩
        rw [fstI_at _ xs k (by have := H.out.len; omega) hne.out hx]
        rfl
    · go_wp2
      go_ret
      refine ⟨?_, rfl⟩
      rw [fstI_none _ xs (fun j hj => hne.out j (by have := H.out.len; omega))]
      rfl
set_option maxHeartbeats 400000 in
theorem containsFunc_sim (r b o : Nat) (xs : List Int) (w : World) (h : NumRd w r b o xs) :
    Calls Try.prog 65 #[.slice (some ⟨r, 0, none⟩) 13 13, .func (.func 78) #[] #[]] w fun e w' => e = .returned (.bool (xs.any bigN)) ∧ w = w' := by
  have H := Lib.hid h
  clear h
  have h1 := fstI_nonneg bigN xs
  cases h2 : xs.any bigN
  all_goals
    rw [h2] at h1
    go_enter Try.func65, Try.ntmps65
    go_wp2_with (go_at_call 92; refine (indexFunc_sim _ _ _ xs _ H.out).mono ?_; rintro e w' ⟨rfl, rfl⟩)
    go_ret
    exact ⟨rfl, rfl⟩

set_option maxHeartbeats 400000 in
theorem indexFunc_feed (r b o : Nat) (xs : List Int) (w : World) (h : NumRd w r b o xs) :
    Calls Try.prog 92 #[.slice (some ⟨r, 0, none⟩) 13 13, .func (.func 67) #[] #[]] w fun e w' => e = .returned (.int .i64 (fstI overN xs)) ∧ w = w' := by
  have H := Lib.hid h
  clear h
  go_enter Try.func92, Try.ntmps92
  go_wp2
  go_loop [8] (fun i => ∃ k : Nat, k ≤ 13 ∧ i = .int .i64 k ∧ Hid (∀ j, j < k → overN (gi xs j) = false)) (fun i => 13 - (intOf i).toNat)
  case atStart => exact ⟨0, Nat.zero_le _, rfl, Lib.hid (fun j hj => absurd hj (Nat.not_lt_zero _))⟩
  case round =>
    obtain ⟨k, hk, rfl, hne⟩ := hrel
    by_cases hlt : k < 13
    · have hp := H.out.ptr k hlt
      have hc := H.out.cell k hlt
      cases hx : overN (gi xs k)
      · go_wp2_with (go_at_call 67; refine (feed1_any _ _ _ hc).mono ?_; rintro e w' ⟨rfl, rfl⟩; rw [hx])
        go_round
        case rel => exact ⟨k + 1, by omega, by go_num, fun j hj => by rcases Nat.lt_succ_iff_lt_or_eq.1 hj with h | rfl; exact hne.out j h; exact hx⟩
        case measure => simp [intOf]; omega
      · go_wp2_with (go_at_call 67; refine (feed1_any _ _ _ hc).mono ?_; rintro e w' ⟨rfl, rfl⟩; rw [hx])
        go_ret
        refine ⟨?_, rfl⟩
        rw [fstI_at _ xs k (by have := H.out.len; omega) hne.out hx]
        rfl
    · go_wp2
      go_ret
      refine ⟨?_, rfl⟩
      rw [fstI_none _ xs (fun j hj => hne.out j (by have := H.out.len; omega))]
      rfl
set_option maxHeartbeats 400000 in
theorem containsFunc_feed (r b o : Nat) (xs : List Int) (w : World) (h : NumRd w r b o xs) :
    Calls Try.prog 65 #[.slice (some ⟨r, 0, none⟩) 13 13, .func (.func 67) #[] #[]] w fun e w' => e = .returned (.bool (xs.any overN)) ∧ w = w' := by
  have H := Lib.hid h
  clear h
  have h1 := fstI_nonneg overN xs
  cases h2 : xs.any overN
  all_goals
    rw [h2] at h1
    go_enter Try.func65, Try.ntmps65
    go_wp2_with (go_at_call 92; refine (indexFunc_feed _ _ _ xs _ H.out).mono ?_; rintro e w' ⟨rfl, rfl⟩)
    go_ret
    exact ⟨rfl, rfl⟩
end Go.Proofs.Ytdkacdfhapgboaa

/- sim.sim: a valid simulation. (printed by gen/simt.py) -/
set_option linter.unusedVariables false
set_option linter.unusedSimpArgs false
namespace Go.Proofs.Ytdkacdfhapgboaa
open Go.RowKit

/-! ### The numbers of instructions: lists of fourteen -/
def gn (ns : List (List Int)) (k : Nat) : List Int := ns.getD k []
def cntV (c : List Int) (j : Nat) : Value := match j with | 0 => .int .u32 (gi c 0) | j + 1 => .int .i64 (gi c (j + 1))
structure RdN (w : World) (A : Option Addr) (ns : List (List Int)) : Prop where
  le : ns.length ≤ 9223372036854775807
  cell : ∀ k, k < ns.length → ∀ j, j < 14 → ∃ ad, A = some ad ∧ w.cell? (ad.add (k * 14 + j)) = some (cntV (gn ns k) j)
theorem RdN.below {w W : World} {A : Option Addr} {ns : List (List Int)} (h : RdN w A ns) (hb : Below w.heap.size w W) : RdN W A ns :=
  ⟨h.le, fun k hk j hj => let ⟨ad, e, hc⟩ := h.cell k hk j hj; ⟨ad, e, bkeep hb hc⟩⟩
/-- The thirteen numbers behind the PC. -/
def cntX (c : List Int) : List Int := (List.range 13).map fun j => gi c (j + 1)
theorem cntX_len (c : List Int) : (cntX c).length = 13 := by simp [cntX]
theorem cntX_gi (c : List Int) (j : Nat) (hj : j < 13) : gi (cntX c) j = gi c (j + 1) := by
  rw [gi_get _ _ (by rw [cntX_len]; exact hj)]
  simp [cntX]
/-- A count in a box. -/
abbrev cntObj (c : List Int) : Obj := .cells #[.int .u32 (gi c 0), .int .i64 (gi c 1), .int .i64 (gi c 2), .int .i64 (gi c 3), .int .i64 (gi c 4), .int .i64 (gi c 5), .int .i64 (gi c 6), .int .i64 (gi c 7), .int .i64 (gi c 8), .int .i64 (gi c 9), .int .i64 (gi c 10), .int .i64 (gi c 11), .int .i64 (gi c 12), .int .i64 (gi c 13)] 79
theorem cell_add {w : World} {ad : Addr} {m j : Nat} {v : Value} (hj : j ≠ 0) (h : w.cell? (ad.add (m + j)) = some v) : w.cell? ⟨(ad.add m).block, (ad.add m).off + j, none⟩ = some v := by
  have e : ad.add (m + j) = ⟨(ad.add m).block, (ad.add m).off + j, none⟩ := by
    unfold Addr.add
    by_cases hm : m = 0
    · subst hm; simp [hj]
    · simp [hm, Nat.add_assoc]
  rw [e] at h
  exact h
theorem RdN.at14 {w : World} {A : Option Addr} {ns : List (List Int)} (h : RdN w A ns) (k : Nat) (hk : k < ns.length) : ∃ ad, A = some ad ∧ w.cell? (ad.add (k * 14)) = some (.int .u32 (gi (gn ns k) 0)) ∧ w.cell? ⟨(ad.add (k * 14)).block, (ad.add (k * 14)).off + 1, none⟩ = some (.int .i64 (gi (gn ns k) 1)) ∧ w.cell? ⟨(ad.add (k * 14)).block, (ad.add (k * 14)).off + 2, none⟩ = some (.int .i64 (gi (gn ns k) 2)) ∧ w.cell? ⟨(ad.add (k * 14)).block, (ad.add (k * 14)).off + 3, none⟩ = some (.int .i64 (gi (gn ns k) 3)) ∧ w.cell? ⟨(ad.add (k * 14)).block, (ad.add (k * 14)).off + 4, none⟩ = some (.int .i64 (gi (gn ns k) 4)) ∧ w.cell? ⟨(ad.add (k * 14)).block, (ad.add (k * 14)).off + 5, none⟩ = some (.int .i64 (gi (gn ns k) 5)) ∧ w.cell? ⟨(ad.add (k * 14)).block, (ad.add (k * 14)).off + 6, none⟩ = some (.int .i64 (gi (gn ns k) 6)) ∧ w.cell? ⟨(ad.add (k * 14)).block, (ad.add (k * 14)).off + 7, none⟩ = some (.int .i64 (gi (gn ns k) 7)) ∧ w.cell? ⟨(ad.add (k * 14)).block, (ad.add (k * 14)).off + 8, none⟩ = some (.int .i64 (gi (gn ns k) 8)) ∧ w.cell? ⟨(ad.add (k * 14)).block, (ad.add (k * 14)).off + 9, none⟩ = some (.int .i64 (gi (gn ns k) 9)) ∧ w.cell? ⟨(ad.add (k * 14)).block, (ad.add (k * 14)).off + 10, none⟩ = some (.int .i64 (gi (gn ns k) 10)) ∧ w.cell? ⟨(ad.add (k * 14)).block, (ad.add (k * 14)).off + 11, none⟩ = some (.int .i64 (gi (gn ns k) 11)) ∧ w.cell? ⟨(ad.add (k * 14)).block, (ad.add (k * 14)).off + 12, none⟩ = some (.int .i64 (gi (gn ns k) 12)) ∧ w.cell? ⟨(ad.add (k * 14)).block, (ad.add (k * 14)).off + 13, none⟩ = some (.int .i64 (gi (gn ns k) 13)) := by
  obtain ⟨ad, e, h0⟩ := h.cell k hk 0 (by omega)
  have hh : ∀ j, j < 13 → w.cell? ⟨(ad.add (k * 14)).block, (ad.add (k * 14)).off + (j + 1), none⟩ = some (.int .i64 (gi (gn ns k) (j + 1))) := fun j hj => by
    obtain ⟨ad', e', h'⟩ := h.cell k hk (j + 1) (by omega)
    rw [e] at e'
    cases e'
    exact cell_add (by omega) h'
  exact ⟨ad, e, h0, hh 0 (by omega), hh 1 (by omega), hh 2 (by omega), hh 3 (by omega), hh 4 (by omega), hh 5 (by omega), hh 6 (by omega), hh 7 (by omega), hh 8 (by omega), hh 9 (by omega), hh 10 (by omega), hh 11 (by omega), hh 12 (by omega)⟩
theorem numRd_new {W W7 : World} {b : Nat} {c : List Int} (h : W.heap[b]? = some (cntObj c)) (hr : W7.heap[W.heap.size]? = some (.cells (ptrs b 0).toArray 101 (0, 0))) (hb : Below W.heap.size W W7) : NumRd W7 W.heap.size b 0 (cntX c) := by
  refine ⟨cntX_len c, hr, fun j hj => ?_⟩
  have e : (#[.int .u32 (gi c 0), .int .i64 (gi c 1), .int .i64 (gi c 2), .int .i64 (gi c 3), .int .i64 (gi c 4), .int .i64 (gi c 5), .int .i64 (gi c 6), .int .i64 (gi c 7), .int .i64 (gi c 8), .int .i64 (gi c 9), .int .i64 (gi c 10), .int .i64 (gi c 11), .int .i64 (gi c 12), .int .i64 (gi c 13)] : Array Value) = ((List.range 14).map (cntV c)).toArray := rfl
  have hc : W.cell? ⟨b, 0 + (j + 1), none⟩ = some (.int .i64 (gi (cntX c) j)) := by
    rw [cntX_gi c j hj]
    refine boxAt h ?_
    have er : (List.range 14)[j + 1]? = some (j + 1) := by rw [List.getElem?_range (by omega)]
    rw [e, List.getElem?_toArray, List.getElem?_map, Nat.zero_add, er]
    rfl
  exact bkeep hb hc
def cntsOk (ns : List (List Int)) : Prop := ∀ k, k < ns.length → (0 < k → gi (gn ns (k - 1)) 0 < gi (gn ns k) 0) ∧ (cntX (gn ns k)).any bigN = false

set_option maxRecDepth 100000 in
set_option maxHeartbeats 2000000 in
theorem sim_true (il is iw dl ds dw ll ls lw pt ph pr : Int) (AI AD AL A R N : Option Addr) (ci cd cl ca ra nc : Nat) (vI vD vL : List Value) (LI LD LL : List (List Int)) (cs rs : List Int) (hist : Int) (ns : List (List Int)) (w : World)
    (hs : simShapeB ⟨il, is, iw, dl, ds, dw, ll, ls, lw, pt, ph, pr⟩ = true) (hI : RdSets w AI vI LI) (hD : RdSets w AD vD LD) (hL : RdSets w AL vL LL) (hc : RdI w .i64 A cs.length cs) (hn : RdN w N ns)
    (oI : cacheOk il is iw LI) (oD : cacheOk dl ds dw LD) (oL : cacheOk ll ls lw LL) (oP : predOk pt ph pr cs hist rs) (hh : 0 ≤ hist ∧ hist < 4294967296) (hnl : ns.length ≤ 20000) (oN : cntsOk ns) :
    Calls Try.prog 57 #[.agg #[.int .i64 il, .int .i64 is, .int .i64 iw, .int .i64 dl, .int .i64 ds, .int .i64 dw, .int .i64 ll, .int .i64 ls, .int .i64 lw, .int .i64 pt, .int .i64 ph, .int .i64 pr, .int .i64 il, .int .i64 is, .int .i64 iw, .slice AI LI.length ci, .int .i64 dl, .int .i64 ds, .int .i64 dw, .slice AD LD.length cd, .int .i64 ll, .int .i64 ls, .int .i64 lw, .slice AL LL.length cl, .int .i64 pt, .int .i64 ph, .int .i64 pr, .slice A cs.length ca, .int .u32 hist, .slice R rs.length ra, .slice N ns.length nc]] w fun e w' => e = .returned (.bool true) ∧ Below w.heap.size w w' := by
  obtain ⟨W0, hW0⟩ : ∃ W0, w.alloc (.cells #[.int .i64 il, .int .i64 is, .int .i64 iw, .int .i64 dl, .int .i64 ds, .int .i64 dw, .int .i64 ll, .int .i64 ls, .int .i64 lw, .int .i64 pt, .int .i64 ph, .int .i64 pr, .int .i64 il, .int .i64 is, .int .i64 iw, .slice AI LI.length ci, .int .i64 dl, .int .i64 ds, .int .i64 dw, .slice AD LD.length cd, .int .i64 ll, .int .i64 ls, .int .i64 lw, .slice AL LL.length cl, .int .i64 pt, .int .i64 ph, .int .i64 pr, .slice A cs.length ca, .int .u32 hist, .slice R rs.length ra, .slice N ns.length nc] 67) = W0 := ⟨_, rfl⟩
  have hb0 : Below w.heap.size w W0 := by rw [← hW0]; exact balloc w _
  have hx0 : W0.heap[w.heap.size]? = some (.cells #[.int .i64 il, .int .i64 is, .int .i64 iw, .int .i64 dl, .int .i64 ds, .int .i64 dw, .int .i64 ll, .int .i64 ls, .int .i64 lw, .int .i64 pt, .int .i64 ph, .int .i64 pr, .int .i64 il, .int .i64 is, .int .i64 iw, .slice AI LI.length ci, .int .i64 dl, .int .i64 ds, .int .i64 dw, .slice AD LD.length cd, .int .i64 ll, .int .i64 ls, .int .i64 lw, .slice AL LL.length cl, .int .i64 pt, .int .i64 ph, .int .i64 pr, .slice A cs.length ca, .int .u32 hist, .slice R rs.length ra, .slice N ns.length nc] 67 (0, 0)) := by rw [← hW0]; exact heap_alloc_new w _
  have HI := Lib.hid (hI.below hb0)
  have HD := Lib.hid (hD.below hb0)
  have HL := Lib.hid (hL.below hb0)
  have HC := Lib.hid (Rd.below hc hb0)
  have HN := Lib.hid (hn.below hb0)
  have HX := Lib.hid hx0
  have HB := Lib.hid hb0
  have OI := Lib.hid oI
  have OD := Lib.hid oD
  have OL := Lib.hid oL
  have OP := Lib.hid oP
  have ON := Lib.hid oN
  clear hI hD hL hc hn oI oD oL oP oN hb0
  have c0 := boxAt (i := 0) hx0 rfl
  have c1 := boxAt (i := 1) hx0 rfl
  have c2 := boxAt (i := 2) hx0 rfl
  have c3 := boxAt (i := 3) hx0 rfl
  have c4 := boxAt (i := 4) hx0 rfl
  have c5 := boxAt (i := 5) hx0 rfl
  have c6 := boxAt (i := 6) hx0 rfl
  have c7 := boxAt (i := 7) hx0 rfl
  have c8 := boxAt (i := 8) hx0 rfl
  have c9 := boxAt (i := 9) hx0 rfl
  have c10 := boxAt (i := 10) hx0 rfl
  have c11 := boxAt (i := 11) hx0 rfl
  have c12 := boxAt (i := 12) hx0 rfl
  have c13 := boxAt (i := 13) hx0 rfl
  have c14 := boxAt (i := 14) hx0 rfl
  have c15 := boxAt (i := 15) hx0 rfl
  have c16 := boxAt (i := 16) hx0 rfl
  have c17 := boxAt (i := 17) hx0 rfl
  have c18 := boxAt (i := 18) hx0 rfl
  have c19 := boxAt (i := 19) hx0 rfl
  have c20 := boxAt (i := 20) hx0 rfl
  have c21 := boxAt (i := 21) hx0 rfl
  have c22 := boxAt (i := 22) hx0 rfl
  have c23 := boxAt (i := 23) hx0 rfl
  have c24 := boxAt (i := 24) hx0 rfl
  have c25 := boxAt (i := 25) hx0 rfl
  have c26 := boxAt (i := 26) hx0 rfl
  have c27 := boxAt (i := 27) hx0 rfl
  have c28 := boxAt (i := 28) hx0 rfl
  have c29 := boxAt (i := 29) hx0 rfl
  have c30 := boxAt (i := 30) hx0 rfl
  clear hx0
  go_enter Try.func57, Try.ntmps57
  go_wp2_with fail
  refine (simShape_any il is iw dl ds dw ll ls lw pt ph pr _).mono ?_
  rintro e W1 ⟨rfl, hb⟩
  rw [hs]
  replace HI := Lib.hid (HI.out.below hb)
  replace HD := Lib.hid (HD.out.below hb)
  replace HL := Lib.hid (HL.out.below hb)
  replace HC := Lib.hid (Rd.below HC.out hb)
  replace HN := Lib.hid (HN.out.below hb)
  replace HB := Lib.hid (bvia HB.out hb (Nat.le_refl _))
  replace HX := Lib.hid (belowBox hb HX.out)
  clear c0 c1 c2 c3 c4 c5 c6 c7 c8 c9 c10 c11 c12 c13 c14 c15 c16 c17 c18 c19 c20 c21 c22 c23 c24 c25 c26 c27 c28 c29 c30 hb
  have c0 := boxAt (i := 0) HX.out rfl
  have c1 := boxAt (i := 1) HX.out rfl
  have c2 := boxAt (i := 2) HX.out rfl
  have c3 := boxAt (i := 3) HX.out rfl
  have c4 := boxAt (i := 4) HX.out rfl
  have c5 := boxAt (i := 5) HX.out rfl
  have c6 := boxAt (i := 6) HX.out rfl
  have c7 := boxAt (i := 7) HX.out rfl
  have c8 := boxAt (i := 8) HX.out rfl
  have c9 := boxAt (i := 9) HX.out rfl
  have c10 := boxAt (i := 10) HX.out rfl
  have c11 := boxAt (i := 11) HX.out rfl
  have c12 := boxAt (i := 12) HX.out rfl
  have c13 := boxAt (i := 13) HX.out rfl
  have c14 := boxAt (i := 14) HX.out rfl
  have c15 := boxAt (i := 15) HX.out rfl
  have c16 := boxAt (i := 16) HX.out rfl
  have c17 := boxAt (i := 17) HX.out rfl
  have c18 := boxAt (i := 18) HX.out rfl
  have c19 := boxAt (i := 19) HX.out rfl
  have c20 := boxAt (i := 20) HX.out rfl
  have c21 := boxAt (i := 21) HX.out rfl
  have c22 := boxAt (i := 22) HX.out rfl
  have c23 := boxAt (i := 23) HX.out rfl
  have c24 := boxAt (i := 24) HX.out rfl
  have c25 := boxAt (i := 25) HX.out rfl
  have c26 := boxAt (i := 26) HX.out rfl
  have c27 := boxAt (i := 27) HX.out rfl
  have c28 := boxAt (i := 28) HX.out rfl
  have c29 := boxAt (i := 29) HX.out rfl
  have c30 := boxAt (i := 30) HX.out rfl
  go_wp2_with fail
  refine (cache_any il is iw AI ci vI LI _ HI.out).mono ?_
  rintro e W2 ⟨rfl, hb⟩
  rw [decide_eq_true OI.out]
  replace HI := Lib.hid (HI.out.below hb)
  replace HD := Lib.hid (HD.out.below hb)
  replace HL := Lib.hid (HL.out.below hb)
  replace HC := Lib.hid (Rd.below HC.out hb)
  replace HN := Lib.hid (HN.out.below hb)
  replace HB := Lib.hid (bvia HB.out hb (Nat.le_refl _))
  replace HX := Lib.hid (belowBox hb HX.out)
  clear c0 c1 c2 c3 c4 c5 c6 c7 c8 c9 c10 c11 c12 c13 c14 c15 c16 c17 c18 c19 c20 c21 c22 c23 c24 c25 c26 c27 c28 c29 c30 hb
  have c0 := boxAt (i := 0) HX.out rfl
  have c1 := boxAt (i := 1) HX.out rfl
  have c2 := boxAt (i := 2) HX.out rfl
  have c3 := boxAt (i := 3) HX.out rfl
  have c4 := boxAt (i := 4) HX.out rfl
  have c5 := boxAt (i := 5) HX.out rfl
  have c6 := boxAt (i := 6) HX.out rfl
  have c7 := boxAt (i := 7) HX.out rfl
  have c8 := boxAt (i := 8) HX.out rfl
  have c9 := boxAt (i := 9) HX.out rfl
  have c10 := boxAt (i := 10) HX.out rfl
  have c11 := boxAt (i := 11) HX.out rfl
  have c12 := boxAt (i := 12) HX.out rfl
  have c13 := boxAt (i := 13) HX.out rfl
  have c14 := boxAt (i := 14) HX.out rfl
  have c15 := boxAt (i := 15) HX.out rfl
  have c16 := boxAt (i := 16) HX.out rfl
  have c17 := boxAt (i := 17) HX.out rfl
  have c18 := boxAt (i := 18) HX.out rfl
  have c19 := boxAt (i := 19) HX.out rfl
  have c20 := boxAt (i := 20) HX.out rfl
  have c21 := boxAt (i := 21) HX.out rfl
  have c22 := boxAt (i := 22) HX.out rfl
  have c23 := boxAt (i := 23) HX.out rfl
  have c24 := boxAt (i := 24) HX.out rfl
  have c25 := boxAt (i := 25) HX.out rfl
  have c26 := boxAt (i := 26) HX.out rfl
  have c27 := boxAt (i := 27) HX.out rfl
  have c28 := boxAt (i := 28) HX.out rfl
  have c29 := boxAt (i := 29) HX.out rfl
  have c30 := boxAt (i := 30) HX.out rfl
  go_wp2_with fail
  refine (cache_any dl ds dw AD cd vD LD _ HD.out).mono ?_
  rintro e W3 ⟨rfl, hb⟩
  rw [decide_eq_true OD.out]
  replace HI := Lib.hid (HI.out.below hb)
  replace HD := Lib.hid (HD.out.below hb)
  replace HL := Lib.hid (HL.out.below hb)
  replace HC := Lib.hid (Rd.below HC.out hb)
  replace HN := Lib.hid (HN.out.below hb)
  replace HB := Lib.hid (bvia HB.out hb (Nat.le_refl _))
  replace HX := Lib.hid (belowBox hb HX.out)
  clear c0 c1 c2 c3 c4 c5 c6 c7 c8 c9 c10 c11 c12 c13 c14 c15 c16 c17 c18 c19 c20 c21 c22 c23 c24 c25 c26 c27 c28 c29 c30 hb
  have c0 := boxAt (i := 0) HX.out rfl
  have c1 := boxAt (i := 1) HX.out rfl
  have c2 := boxAt (i := 2) HX.out rfl
  have c3 := boxAt (i := 3) HX.out rfl
  have c4 := boxAt (i := 4) HX.out rfl
  have c5 := boxAt (i := 5) HX.out rfl
  have c6 := boxAt (i := 6) HX.out rfl
  have c7 := boxAt (i := 7) HX.out rfl
  have c8 := boxAt (i := 8) HX.out rfl
  have c9 := boxAt (i := 9) HX.out rfl
  have c10 := boxAt (i := 10) HX.out rfl
  have c11 := boxAt (i := 11) HX.out rfl
  have c12 := boxAt (i := 12) HX.out rfl
  have c13 := boxAt (i := 13) HX.out rfl
  have c14 := boxAt (i := 14) HX.out rfl
  have c15 := boxAt (i := 15) HX.out rfl
  have c16 := boxAt (i := 16) HX.out rfl
  have c17 := boxAt (i := 17) HX.out rfl
  have c18 := boxAt (i := 18) HX.out rfl
  have c19 := boxAt (i := 19) HX.out rfl
  have c20 := boxAt (i := 20) HX.out rfl
  have c21 := boxAt (i := 21) HX.out rfl
  have c22 := boxAt (i := 22) HX.out rfl
  have c23 := boxAt (i := 23) HX.out rfl
  have c24 := boxAt (i := 24) HX.out rfl
  have c25 := boxAt (i := 25) HX.out rfl
  have c26 := boxAt (i := 26) HX.out rfl
  have c27 := boxAt (i := 27) HX.out rfl
  have c28 := boxAt (i := 28) HX.out rfl
  have c29 := boxAt (i := 29) HX.out rfl
  have c30 := boxAt (i := 30) HX.out rfl
  go_wp2_with fail
  refine (cache_any ll ls lw AL cl vL LL _ HL.out).mono ?_
  rintro e W4 ⟨rfl, hb⟩
  rw [decide_eq_true OL.out]
  replace HI := Lib.hid (HI.out.below hb)
  replace HD := Lib.hid (HD.out.below hb)
  replace HL := Lib.hid (HL.out.below hb)
  replace HC := Lib.hid (Rd.below HC.out hb)
  replace HN := Lib.hid (HN.out.below hb)
  replace HB := Lib.hid (bvia HB.out hb (Nat.le_refl _))
  replace HX := Lib.hid (belowBox hb HX.out)
  clear c0 c1 c2 c3 c4 c5 c6 c7 c8 c9 c10 c11 c12 c13 c14 c15 c16 c17 c18 c19 c20 c21 c22 c23 c24 c25 c26 c27 c28 c29 c30 hb
  have c0 := boxAt (i := 0) HX.out rfl
  have c1 := boxAt (i := 1) HX.out rfl
  have c2 := boxAt (i := 2) HX.out rfl
  have c3 := boxAt (i := 3) HX.out rfl
  have c4 := boxAt (i := 4) HX.out rfl
  have c5 := boxAt (i := 5) HX.out rfl
  have c6 := boxAt (i := 6) HX.out rfl
  have c7 := boxAt (i := 7) HX.out rfl
  have c8 := boxAt (i := 8) HX.out rfl
  have c9 := boxAt (i := 9) HX.out rfl
  have c10 := boxAt (i := 10) HX.out rfl
  have c11 := boxAt (i := 11) HX.out rfl
  have c12 := boxAt (i := 12) HX.out rfl
  have c13 := boxAt (i := 13) HX.out rfl
  have c14 := boxAt (i := 14) HX.out rfl
  have c15 := boxAt (i := 15) HX.out rfl
  have c16 := boxAt (i := 16) HX.out rfl
  have c17 := boxAt (i := 17) HX.out rfl
  have c18 := boxAt (i := 18) HX.out rfl
  have c19 := boxAt (i := 19) HX.out rfl
  have c20 := boxAt (i := 20) HX.out rfl
  have c21 := boxAt (i := 21) HX.out rfl
  have c22 := boxAt (i := 22) HX.out rfl
  have c23 := boxAt (i := 23) HX.out rfl
  have c24 := boxAt (i := 24) HX.out rfl
  have c25 := boxAt (i := 25) HX.out rfl
  have c26 := boxAt (i := 26) HX.out rfl
  have c27 := boxAt (i := 27) HX.out rfl
  have c28 := boxAt (i := 28) HX.out rfl
  have c29 := boxAt (i := 29) HX.out rfl
  have c30 := boxAt (i := 30) HX.out rfl
  go_wp2_with fail
  refine (pred_any pt ph pr A ca cs hist R _ ra _ HC.out rs rfl hh).mono ?_
  rintro e W5 ⟨rfl, hb⟩
  rw [decide_eq_true OP.out]
  replace HI := Lib.hid (HI.out.below hb)
  replace HD := Lib.hid (HD.out.below hb)
  replace HL := Lib.hid (HL.out.below hb)
  replace HC := Lib.hid (Rd.below HC.out hb)
  replace HN := Lib.hid (HN.out.below hb)
  replace HB := Lib.hid (bvia HB.out hb (Nat.le_refl _))
  replace HX := Lib.hid (belowBox hb HX.out)
  clear c0 c1 c2 c3 c4 c5 c6 c7 c8 c9 c10 c11 c12 c13 c14 c15 c16 c17 c18 c19 c20 c21 c22 c23 c24 c25 c26 c27 c28 c29 c30 hb
  have c0 := boxAt (i := 0) HX.out rfl
  have c1 := boxAt (i := 1) HX.out rfl
  have c2 := boxAt (i := 2) HX.out rfl
  have c3 := boxAt (i := 3) HX.out rfl
  have c4 := boxAt (i := 4) HX.out rfl
  have c5 := boxAt (i := 5) HX.out rfl
  have c6 := boxAt (i := 6) HX.out rfl
  have c7 := boxAt (i := 7) HX.out rfl
  have c8 := boxAt (i := 8) HX.out rfl
  have c9 := boxAt (i := 9) HX.out rfl
  have c10 := boxAt (i := 10) HX.out rfl
  have c11 := boxAt (i := 11) HX.out rfl
  have c12 := boxAt (i := 12) HX.out rfl
  have c13 := boxAt (i := 13) HX.out rfl
  have c14 := boxAt (i := 14) HX.out rfl
  have c15 := boxAt (i := 15) HX.out rfl
  have c16 := boxAt (i := 16) HX.out rfl
  have c17 := boxAt (i := 17) HX.out rfl
  have c18 := boxAt (i := 18) HX.out rfl
  have c19 := boxAt (i := 19) HX.out rfl
  have c20 := boxAt (i := 20) HX.out rfl
  have c21 := boxAt (i := 21) HX.out rfl
  have c22 := boxAt (i := 22) HX.out rfl
  have c23 := boxAt (i := 23) HX.out rfl
  have c24 := boxAt (i := 24) HX.out rfl
  have c25 := boxAt (i := 25) HX.out rfl
  have c26 := boxAt (i := 26) HX.out rfl
  have c27 := boxAt (i := 27) HX.out rfl
  have c28 := boxAt (i := 28) HX.out rfl
  have c29 := boxAt (i := 29) HX.out rfl
  have c30 := boxAt (i := 30) HX.out rfl
  go_wp2_with fail
  clear c0 c1 c2 c3 c4 c5 c6 c7 c8 c9 c10 c11 c12 c13 c14 c15 c16 c17 c18 c19 c20 c21 c22 c23 c24 c25 c26 c27 c28 c29 c30
  go_loopw [78] (fun i wr => ∃ k : Nat, k ≤ ns.length ∧ i = .int .i64 k ∧ Hid (Below W5.heap.size W5 wr)) (fun i _ => ns.length - (intOf i).toNat)
  case atStart => exact ⟨0, Nat.zero_le _, rfl, Lib.hid (Below.refl _ _)⟩
  case round =>
    obtain ⟨k, hk, rfl, hB⟩ := hrel
    by_cases hlt : k < ns.length
    · obtain ⟨c, hcg⟩ : ∃ c, gn ns k = c := ⟨_, rfl⟩
      obtain ⟨ad, e0, x0, x1, x2, x3, x4, x5, x6, x7, x8, x9, x10, x11, x12, x13⟩ := (HN.out.below hB.out).at14 k hlt
      subst e0
      rw [hcg] at x0 x1 x2 x3 x4 x5 x6 x7 x8 x9 x10 x11 x12 x13
      obtain ⟨hpc, hbig⟩ := ON.out k hlt
      rw [hcg] at hpc hbig
      have hxr := belowBox hB.out HX.out
      have r30 := boxAt (i := 30) hxr rfl
      have hwl : w.heap.size < wr.heap.size := (Array.getElem?_eq_some_iff.1 hxr).1
      have HXR := Lib.hid hxr
      obtain ⟨W6, hW6⟩ : ∃ W6, wr.alloc (cntObj c) = W6 := ⟨_, rfl⟩
      have h6 : W6.heap[wr.heap.size]? = some (cntObj c) := by rw [← hW6]; exact heap_alloc_new wr _
      have hb6 : Below wr.heap.size wr W6 := by rw [← hW6]; exact balloc wr _
      have y0 := boxAt (i := 0) h6 rfl
      have yn := bkeep hb6 r30
      obtain ⟨W6d, hW6d⟩ : ∃ W6d, W6.drew = W6d := ⟨_, rfl⟩
      have y0d : W6d.cell? ⟨wr.heap.size, 0, none⟩ = some (.int .u32 (gi c 0)) := by rw [← hW6d]; exact y0
      have ynd : W6d.cell? ⟨w.heap.size, 30, none⟩ = some (.slice (some ad) ns.length nc) := by rw [← hW6d]; exact yn
      have k0 := Just.cell y0d
      have kn := Just.cell ynd
      have H6d := Lib.hid (show W6d.heap[wr.heap.size]? = some (cntObj c) by rw [← hW6d]; exact h6)
      have HB6d := Lib.hid (show Below wr.heap.size wr W6d by rw [← hW6d]; exact bdrewN hb6 1)
      have HBIG := Lib.hid hbig
      clear h6 hb6 hxr hbig
      go_wp2_with fail
      clear x0 x1 x2 x3 x4 x5 x6 x7 x8 x9 x10 x11 x12 x13
      cases k with
      | zero =>
        clear hpc
        refine region_tail 15 hW6d (by kernel_rfl) (by kernel_rfl) ?_
        simp only [List.take_succ_cons, List.take_zero, List.drop_succ_cons, List.drop_zero]
        repeat (go_big_quiet_step (fail))
        refine wpQuiet_nil ?_
        go_wp2_with fail
        refine (numbers_any wr.heap.size 0 W6d).mono ?_
        rintro e W7 ⟨rfl, hr7, hs7, hb7⟩
        have hn7 := Lib.hid (numRd_new H6d.out hr7 hb7)
        clear hr7
        go_wp2_with fail
        refine (containsFunc_sim W6d.heap.size wr.heap.size 0 (cntX c) _ hn7.out).mono ?_
        rintro e W8 ⟨rfl, rfl⟩
        rw [HBIG.out]
        go_wp2_with fail
        go_roundw
        case rel => exact ⟨0 + 1, by omega, by go_num, Lib.hid (bvia hB.out (HB6d.out.trans (hb7.mono HB6d.out.size)) (Nat.le_refl _))⟩
        case measure => simp [intOf]; omega
      | succ m =>
        have hp := hpc (by omega)
        rw [show m + 1 - 1 = m by omega] at hp
        obtain ⟨ad', e1, z0, _⟩ := (HN.out.below hB.out).at14 m (by omega)
        cases e1
        have z0d : W6d.cell? (ad.add (m * 14)) = some (.int .u32 (gi (gn ns m) 0)) := bkeep HB6d.out z0
        have kz := Just.cell z0d
        have hge : decide (gi c 0 ≤ gi (gn ns m) 0) = false := by simp; omega
        obtain ⟨pm, hpm⟩ : ∃ pm, gi (gn ns m) 0 = pm := ⟨_, rfl⟩
        rw [hpm] at hge z0d kz
        clear hp hpm hpc z0
        refine region_tail 15 hW6d (by kernel_rfl) (by kernel_rfl) ?_
        simp only [List.take_succ_cons, List.take_zero, List.drop_succ_cons, List.drop_zero]
        repeat (go_big_quiet_step (fail))
        refine wpQuiet_nil ?_
        go_wp2_with fail
        refine (numbers_any wr.heap.size 0 W6d).mono ?_
        rintro e W7 ⟨rfl, hr7, hs7, hb7⟩
        have hn7 := Lib.hid (numRd_new H6d.out hr7 hb7)
        clear hr7
        go_wp2_with fail
        refine (containsFunc_sim W6d.heap.size wr.heap.size 0 (cntX c) _ hn7.out).mono ?_
        rintro e W8 ⟨rfl, rfl⟩
        rw [HBIG.out]
        go_wp2_with fail
        go_roundw
        case rel => exact ⟨m + 1 + 1, by omega, by go_num, Lib.hid (bvia hB.out (HB6d.out.trans (hb7.mono HB6d.out.size)) (Nat.le_refl _))⟩
        case measure => simp [intOf]; omega
    · go_wp2
      go_ret
      exact ⟨rfl, bvia HB.out hB.out (Nat.le_refl _)⟩
end Go.Proofs.Ytdkacdfhapgboaa

/- The law of caches in plain words: a set holds the lines last used, the latest first. No program in sight. -/
set_option linter.unusedVariables false
set_option linter.unusedSimpArgs false
namespace Go.Proofs.Ytdkacdfhapgboaa

/-- A set of k ways behind some lines. -/
def lruK (k : Nat) : List Int → List Int → List Int
  | l, [] => l
  | l, x :: xs => lruK k ((frontL l x).take k) xs
/-- A set without an end. -/
def lru : List Int → List Int → List Int
  | l, [] => l
  | l, x :: xs => lru (frontL l x) xs

theorem take_erase (x : Int) : ∀ (l : List Int) (k : Nat), ((l.take (k + 1)).erase x).take k = (l.erase x).take k
  | [], k => by simp
  | a :: l, k => by
    by_cases e : a = x
    · subst e; simp [List.take_take]
    · rw [List.take_succ_cons, List.erase_cons_tail (by simpa using e), List.erase_cons_tail (by simpa using e)]
      cases k with
      | zero => simp
      | succ k => rw [List.take_succ_cons, List.take_succ_cons, take_erase x l k]
theorem take_front (l : List Int) (x : Int) (k : Nat) : (frontL (l.take k) x).take k = (frontL l x).take k := by
  cases k with
  | zero => simp
  | succ k => simp only [frontL, List.take_succ_cons, take_erase]
theorem lruK_take (k : Nat) : ∀ (xs l : List Int), lruK k (l.take k) xs = (lru l xs).take k
  | [], l => rfl
  | x :: xs, l => by simp only [lruK, lru]; rw [take_front, lruK_take k xs]
theorem lruK_nil (k : Nat) (xs : List Int) : lruK k [] xs = (lru [] xs).take k := by
  have := lruK_take k xs []
  simpa using this
theorem lru_append (l : List Int) (xs ys : List Int) : lru l (xs ++ ys) = lru (lru l xs) ys := by
  induction xs generalizing l with
  | nil => rfl
  | cons x xs ih => exact ih _
theorem lruK_append (k : Nat) (l : List Int) (xs ys : List Int) : lruK k l (xs ++ ys) = lruK k (lruK k l xs) ys := by
  induction xs generalizing l with
  | nil => rfl
  | cons x xs ih => exact ih _
theorem frontL_nodup {l : List Int} (h : l.Nodup) (x : Int) : (frontL l x).Nodup := by
  unfold frontL
  rw [List.nodup_cons]
  exact ⟨fun hm => (List.Nodup.mem_erase_iff h).1 hm |>.1 rfl, h.erase x⟩
theorem mem_frontL {l : List Int} (h : l.Nodup) (x y : Int) : y ∈ frontL l x ↔ y = x ∨ y ∈ l := by
  unfold frontL
  rw [List.mem_cons, List.Nodup.mem_erase_iff h]
  constructor
  · rintro (h | h)
    · exact .inl h
    · exact .inr h.2
  · intro hh
    by_cases e : y = x
    · exact .inl e
    · rcases hh with hh | hh
      · exact .inl hh
      · exact .inr ⟨e, hh⟩
theorem lru_nodup : ∀ (xs : List Int) {l : List Int}, l.Nodup → (lru l xs).Nodup
  | [], _, h => h
  | x :: xs, _, h => lru_nodup xs (frontL_nodup h x)
theorem mem_lru : ∀ (xs : List Int) {l : List Int}, l.Nodup → ∀ y, y ∈ lru l xs ↔ y ∈ xs ∨ y ∈ l
  | [], l, h, y => by simp [lru]
  | x :: xs, l, h, y => by
    simp only [lru]
    rw [mem_lru xs (frontL_nodup h x), mem_frontL h]
    simp only [List.mem_cons]
    constructor
    · rintro (h | h | h) <;> simp [h]
    · rintro ((h | h) | h) <;> simp [h]
theorem snocInd {α : Type} {P : List α → Prop} (h0 : P []) (h1 : ∀ l x, P l → P (l ++ [x])) (l : List α) : P l := by
  rw [← List.reverse_reverse l]
  induction l.reverse with
  | nil => exact h0
  | cons x xs ih => rw [List.reverse_cons]; exact h1 _ _ ih
/-- Behind x and lines that are not x: so many others lie before x as there are different ones among them. -/
theorem lru_behind (x : Int) (l : List Int) : ∀ (b : List Int), x ∉ b → ∃ d l', lru (x :: l) b = d ++ x :: l' ∧ d.Nodup ∧ ∀ y, y ∈ d ↔ y ∈ b := by
  intro b
  induction b using snocInd with
  | h0 => intro _; exact ⟨[], l, rfl, List.nodup_nil, fun y => by simp⟩
  | h1 b z ih =>
    intro hx
    have hxb : x ∉ b := fun h => hx (by simp [h])
    have hxz : ¬ x = z := fun h => hx (by simp [h])
    obtain ⟨d, l', e, hn, hm⟩ := ih hxb
    rw [lru_append, e]
    simp only [lru, frontL]
    by_cases hz : z ∈ d
    · refine ⟨z :: d.erase z, l', by rw [List.erase_append_left _ hz]; rfl, ?_, fun y => ?_⟩
      · exact frontL_nodup hn z
      · have := mem_frontL hn z y
        unfold frontL at this
        rw [this, hm]
        simp only [List.mem_append, List.mem_singleton]
        constructor
        · rintro (h | h) <;> simp [h]
        · rintro (h | h) <;> simp [h]
    · refine ⟨z :: d, l'.erase z, by rw [List.erase_append_right _ hz, List.erase_cons_tail (by simpa using hxz)]; rfl, List.nodup_cons.2 ⟨hz, hn⟩, fun y => ?_⟩
      simp only [List.mem_cons, hm, List.mem_append, List.mem_singleton, List.not_mem_nil, or_false]
      constructor
      · rintro (h | h) <;> simp [h]
      · rintro (h | h) <;> simp [h]
theorem nodup_len_le : ∀ {d e : List Int}, d.Nodup → (∀ y, y ∈ d → y ∈ e) → d.length ≤ e.length
  | [], e, _, _ => by simp
  | a :: d, e, hn, h => by
    rw [List.nodup_cons] at hn
    have ha : a ∈ e := h a (by simp)
    have hl := List.length_erase_of_mem ha
    have h1 : 1 ≤ e.length := List.length_pos_of_mem ha
    have := nodup_len_le (e := e.erase a) hn.2 fun y hy => (List.mem_erase_of_ne (fun e' : y = a => hn.1 (by rw [← e']; exact hy))).2 (h y (by simp [hy]))
    simp only [List.length_cons]
    omega
theorem nodup_len_eq {d e : List Int} (hd : d.Nodup) (he : e.Nodup) (h : ∀ y, y ∈ d ↔ y ∈ e) : d.length = e.length :=
  Nat.le_antisymm (nodup_len_le hd fun y hy => (h y).1 hy) (nodup_len_le he fun y hy => (h y).2 hy)
theorem mem_take_mid {x : Int} {d l : List Int} (hx : x ∉ d) (k : Nat) : x ∈ (d ++ x :: l).take k ↔ d.length < k := by
  rw [List.take_append]
  constructor
  · intro h
    rcases List.mem_append.1 h with h | h
    · exact absurd (List.mem_of_mem_take h) hx
    · by_cases hk : d.length < k
      · exact hk
      · rw [show k - d.length = 0 by omega] at h; simp at h
  · intro h
    obtain ⟨m, hm⟩ : ∃ m, k - d.length = m + 1 := ⟨k - d.length - 1, by omega⟩
    rw [hm, List.take_succ_cons]
    simp
/-- Hit or miss: x was used before, and then 'since' are the different lines used behind its last use. -/
theorem hit_iff (k : Nat) (a b since : List Int) (x : Int) (hxb : x ∉ b) (hs : since.Nodup) (hm : ∀ y, y ∈ since ↔ y ∈ b) : x ∈ lruK k [] (a ++ x :: b) ↔ since.length < k := by
  rw [lruK_nil, lru_append]
  simp only [lru]
  obtain ⟨d, l', e, hn, hmd⟩ := lru_behind x ((lru [] a).erase x) b hxb
  unfold frontL
  rw [e, mem_take_mid (fun h => hxb ((hmd x).1 h)), nodup_len_eq hn hs fun y => (hmd y).trans (hm y).symm]
theorem miss_new (k : Nat) (a : List Int) (x : Int) (h : x ∉ a) : x ∉ lruK k [] a := by
  rw [lruK_nil]
  intro hm
  have := (mem_lru a List.nodup_nil x).1 (List.mem_of_mem_take hm)
  simp [h] at this

/-! ### The sets of a cache, one by one -/
theorem gl_touch_same (sets ways : Int) (L : List (List Int)) (x : Int) (h : setNo sets x < L.length) : gl (touchL sets ways L x) (setNo sets x) = (frontL (gl L (setNo sets x)) x).take ways.toNat := by
  simp [touchL, gl, List.getD_eq_getElem?_getD, h]
theorem gl_touch_other (sets ways : Int) (L : List (List Int)) (x : Int) (s : Nat) (h : ¬ setNo sets x = s) : gl (touchL sets ways L x) s = gl L s := by
  simp [touchL, gl, List.getD_eq_getElem?_getD, List.getElem?_set_ne h]
theorem gl_run (sets ways : Int) (s : Nat) : ∀ (xs : List Int) (L : List (List Int)), s < L.length → gl (runL sets ways L xs).1 s = lruK ways.toNat (gl L s) (xs.filter fun x => setNo sets x == s)
  | [], L, _ => rfl
  | x :: xs, L, h => by
    simp only [runL]
    rw [gl_run sets ways s xs _ (by rw [touchL_length]; exact h)]
    by_cases e : setNo sets x = s
    · rw [List.filter_cons_of_pos (by simpa using e)]
      simp only [lruK]
      subst e
      rw [gl_touch_same _ _ _ _ h]
    · rw [List.filter_cons_of_neg (by simpa using e), gl_touch_other _ _ _ _ _ e]
/-- An access of one byte touches one line. -/
theorem linI_one (line at_ : Int) (h1 : 1 ≤ line) (ha : 0 ≤ at_ ∧ at_ < 4294967296) (hd : 4294967296 % line = 0) : linI line at_ 1 = [at_ / line] := by
  have hn : nLines line at_ 1 = 1 := by
    unfold nLines
    have : at_ + 1 - 1 = at_ := by omega
    rw [this]
    omega
  unfold linI
  rw [hn]
  have hq : 0 ≤ at_ / line := Int.ediv_nonneg ha.1 (by omega)
  have hlt : at_ / line < 4294967296 / line := by
    rw [Int.ediv_lt_iff_lt_mul (by omega)]
    have := Int.ediv_mul_cancel (Int.dvd_of_emod_eq_zero hd)
    omega
  simp [lineNo, List.range_succ, Int.emod_eq_of_lt hq hlt]
/-- The lines of accesses of one byte. -/
def lns (line : Int) (l : List Int) : List Int := l.map (· / line)
theorem replayL_sets (line sets ways : Int) (h1 : 1 ≤ line) (hd : 4294967296 % line = 0) : ∀ (l : List Int) (L : List (List Int)), (∀ x ∈ l, 0 ≤ x ∧ x < 4294967296) → (replayL line sets ways L l).1 = (runL sets ways L (lns line l)).1
  | [], L, _ => rfl
  | x :: xs, L, h => by
    simp only [replayL, lns, List.map_cons, runL]
    rw [linI_one line x h1 (h x (by simp)) hd, replayL_sets line sets ways h1 hd xs _ fun y hy => h y (by simp [hy])]
    simp only [runL, lns]
/-- Whether access i hits. -/
theorem replayL_hit (line sets ways : Int) (h1 : 1 ≤ line) (hd : 4294967296 % line = 0) : ∀ (l : List Int) (L : List (List Int)), (∀ x ∈ l, 0 ≤ x ∧ x < 4294967296) → ∀ i, i < l.length →
    gb (replayL line sets ways L l).2 i = hitL sets (runL sets ways L (lns line (l.take i))).1 (gi l i / line)
  | [], L, _, i, hi => absurd hi (Nat.not_lt_zero _)
  | x :: xs, L, h, i, hi => by
    simp only [replayL]
    rw [linI_one line x h1 (h x (by simp)) hd]
    cases i with
    | zero =>
      simp only [gb, gi, List.getD_cons_zero, List.take_zero, lns, List.map_nil, runL]
      cases hitL sets L (x / line) <;> simp [missL]
    | succ i =>
      have := replayL_hit line sets ways h1 hd xs (runL sets ways L [x / line]).1 (fun y hy => h y (by simp [hy])) i (by simpa using hi)
      simp only [gb, gi, List.getD_cons_succ, List.take_succ_cons, lns, List.map_cons, runL] at this ⊢
      exact this
end Go.Proofs.Ytdkacdfhapgboaa

/- (*sim.feeder).memory: an access on both levels. -/
set_option linter.unusedVariables false
set_option linter.unusedSimpArgs false
namespace Go.Proofs.Ytdkacdfhapgboaa
open Go.RowKit

/-- Lines that were missed on the first level, accessed on the second one: its sets behind them, and how many lines were missed. -/
def farL (lineC ll : Int) (nL : Int) (lw : Int) : List (List Int) → List Int → List (List Int) × Nat
  | L, [] => (L, 0)
  | L, x :: xs => let r := runL nL lw L (linI ll (IntKind.u32.wrap (x * lineC)) lineC); let q := farL lineC ll nL lw r.1 xs; (q.1, r.2.length + q.2)
theorem farL_snoc (lineC ll nL lw : Int) (xs : List Int) (x : Int) : ∀ L, farL lineC ll nL lw L (xs ++ [x]) =
    ((runL nL lw (farL lineC ll nL lw L xs).1 (linI ll (IntKind.u32.wrap (x * lineC)) lineC)).1, (farL lineC ll nL lw L xs).2 + (runL nL lw (farL lineC ll nL lw L xs).1 (linI ll (IntKind.u32.wrap (x * lineC)) lineC)).2.length) := by
  induction xs with
  | nil => intro L; simp [farL]
  | cons y ys ih => intro L; simp only [List.cons_append, farL, ih]; simp [Nat.add_assoc]
theorem farL_length (lineC ll nL lw : Int) (xs : List Int) : ∀ L, (farL lineC ll nL lw L xs).1.length = L.length := by
  induction xs with
  | nil => intro L; rfl
  | cons x xs ih => intro L; simp only [farL, ih, runL_length]
theorem farL_small {lineC ll nL lw : Int} (xs : List Int) : ∀ {L : List (List Int)}, Small lw L → Small lw (farL lineC ll nL lw L xs).1 := by
  induction xs with
  | nil => intro L h; exact h
  | cons x xs ih => intro L h; exact ih (runL_small _ h)
theorem runL_sub (sets ways : Int) : ∀ (xs : List Int) (L : List (List Int)), (∀ x ∈ (runL sets ways L xs).2, x ∈ xs) ∧ (runL sets ways L xs).2.length ≤ xs.length
  | [], L => by simp [runL]
  | x :: xs, L => by
    obtain ⟨h1, h2⟩ := runL_sub sets ways xs (touchL sets ways L x)
    simp only [runL]
    cases hitL sets L x <;> simp only [missL, List.nil_append, List.cons_append, List.mem_cons, List.length_cons]
    · refine ⟨fun y hy => ?_, by omega⟩
      rcases hy with hy | hy
      · exact .inl hy
      · exact .inr (h1 y hy)
    · exact ⟨fun y hy => .inr (h1 y hy), by omega⟩
theorem linI_len (line at_ cnt : Int) : (linI line at_ cnt).length = nLines line at_ cnt := by simp [linI]
theorem farL_le (lineC ll nL lw : Int) (h1 : 4 ≤ ll) (hc : 1 ≤ lineC ∧ lineC ≤ 65536) : ∀ (xs : List Int) (L : List (List Int)), (farL lineC ll nL lw L xs).2 ≤ xs.length * 65538
  | [], L => by simp [farL]
  | x :: xs, L => by
    have h := farL_le lineC ll nL lw h1 hc xs (runL nL lw L (linI ll (IntKind.u32.wrap (x * lineC)) lineC)).1
    have h2 := (runL_sub nL lw (linI ll (IntKind.u32.wrap (x * lineC)) lineC) L).2
    have h3 := nLines_le ll (IntKind.u32.wrap (x * lineC)) lineC h1 (by rw [IntKind.wrap_u32]; omega) hc
    rw [linI_len] at h2
    simp only [farL, List.length_cons]
    omega

/-- What memory has done so far. -/
structure MemI (W0 : World) (B gC cC gL cL : Nat) (vC vC0 vL vL0 : List Value) (LC LL : List (List Int)) (W : World) : Prop where
  c : OwnSets W B gC cC vC LC
  l : OwnSets W B gL cL vL LL
  apart : ∀ k, foot gC vC LC.length k → ¬ foot gL vL LL.length k
  freshC : ∀ k, foot gC vC LC.length k → foot gC vC0 LC.length k ∨ W0.heap.size ≤ k
  freshL : ∀ k, foot gL vL LL.length k → foot gL vL0 LL.length k ∨ W0.heap.size ≤ k
  upd : Upd (fun k => foot gC vC0 LC.length k ∨ foot gL vL0 LL.length k) W0 W
theorem MemI.out {W0 W : World} {B gC cC gL cL : Nat} {vC vC0 vL vL0 : List Value} {LC LL : List (List Int)} (h : MemI W0 B gC cC gL cL vC vC0 vL vL0 LC LL W) {b : Nat} (hb : b < W0.heap.size) (h1 : ¬ foot gC vC0 LC.length b) (h2 : ¬ foot gL vL0 LL.length b) :
    W.heap[b]? = W0.heap[b]? ∧ ¬ foot gC vC LC.length b ∧ ¬ foot gL vL LL.length b :=
  ⟨h.upd.block b hb (fun hk => hk.elim h1 h2), fun hk => (h.freshC b hk).elim h1 (by omega), fun hk => (h.freshL b hk).elim h2 (by omega)⟩
/-- One access on the second level. -/
theorem MemI.far {W0 W W' : World} {B gC cC gL cL : Nat} {vC vC0 vL vL0 vL' : List Value} {LC LL LL' : List (List Int)} (h : MemI W0 B gC cC gL cL vC vC0 vL vL0 LC LL W) (hl : LL'.length = LL.length) (hs : OwnSets W' B gL cL vL' LL')
    (hf : ∀ k, foot gL vL' LL.length k → foot gL vL LL.length k ∨ W.heap.size + 5 ≤ k) (hu : Upd (foot gL vL LL.length) W W') : MemI W0 B gC cC gL cL vC vC0 vL' vL0 LC LL' W' := by
  have hsz := h.upd.size
  refine ⟨h.c.upd hu fun k hk e => h.apart k hk e, hs, fun k hk e => ?_, h.freshC, fun k hk => ?_, ?_⟩
  · rw [hl] at e
    rcases hf k e with e1 | e1
    · exact h.apart k hk e1
    · have := (h.c.foot_lt k hk).2; omega
  · rw [hl] at hk ⊢
    rcases hf k hk with e1 | e1
    · exact h.freshL k e1
    · exact .inr (by omega)
  · rw [hl]
    exact h.upd.trans hu fun k hk => (h.freshL k hk).elim (fun h => .inl (.inr h)) .inr

set_option maxRecDepth 100000 in
set_option maxHeartbeats 2000000 in
theorem memory_any (B fb gC cC gL cL : Nat) (vC vL : List Value) (LC LL : List (List Int)) (lineC waysC ll lw at_ cnt : Int) (w : World) (hC : OwnSets w B gC cC vC LC) (hL : OwnSets w B gL cL vL LL) (hap : ∀ k, foot gC vC LC.length k → ¬ foot gL vL LL.length k) (hB : B ≤ w.heap.size)
    (sC : shapeB lineC LC.length waysC = true) (sL : shapeB ll LL.length lw = true) (mC : Small waysC LC) (mL : Small lw LL) (hfC : ¬ foot gC vC LC.length fb) (hfL : ¬ foot gL vL LL.length fb)
    (f0 : w.cell? ⟨fb, 20, none⟩ = some (.int .i64 ll)) (f1 : w.cell? ⟨fb, 21, none⟩ = some (.int .i64 (LL.length : Int))) (f2 : w.cell? ⟨fb, 22, none⟩ = some (.int .i64 lw)) (f3 : w.cell? ⟨fb, 23, none⟩ = some (.slice (some ⟨gL, 0, none⟩) LL.length cL))
    (ha : 0 ≤ at_ ∧ at_ < 4294967296) (hc : 1 ≤ cnt ∧ cnt ≤ 65536) :
    Calls Try.prog 99 #[.pointer (some ⟨fb, 0, none⟩), .agg #[.int .i64 lineC, .int .i64 (LC.length : Int), .int .i64 waysC, .slice (some ⟨gC, 0, none⟩) LC.length cC], .int .u32 at_, .int .i64 cnt] w fun e w' =>
      ∃ vC' vL' W0, e = .returned (.tuple #[.int .i64 ((runL LC.length waysC LC (linI lineC at_ cnt)).2.length : Int), .int .i64 ((farL lineC ll LL.length lw LL (runL LC.length waysC LC (linI lineC at_ cnt)).2).2 : Int)]) ∧
        MemI W0 B gC cC gL cL vC' vC vL' vL (runL LC.length waysC LC (linI lineC at_ cnt)).1 (farL lineC ll LL.length lw LL (runL LC.length waysC LC (linI lineC at_ cnt)).2).1 w' ∧ Below w.heap.size w W0 := by
  obtain ⟨a1, a2, a3, a4, a5, a6⟩ := shapeB_line sC
  obtain ⟨b1, b2, b3, b4, b5, b6⟩ := shapeB_line sL
  obtain ⟨W0, hW0⟩ : ∃ W0, w.alloc (.cells #[.int .i64 lineC, .int .i64 (LC.length : Int), .int .i64 waysC, .slice (some ⟨gC, 0, none⟩) LC.length cC] 36) = W0 := ⟨_, rfl⟩
  have hb0 : Below w.heap.size w W0 := by rw [← hW0]; exact balloc w _
  have hs0 : W0.heap.size = w.heap.size + 1 := by rw [← hW0]; simp
  have hx0 : W0.heap[w.heap.size]? = some (.cells #[.int .i64 lineC, .int .i64 (LC.length : Int), .int .i64 waysC, .slice (some ⟨gC, 0, none⟩) LC.length cC] 36 (0, 0)) := by rw [← hW0]; exact heap_alloc_new w _
  obtain ⟨p0, p1, p2, p3, _⟩ := box4 hx0
  have hu0 : Upd (fun _ => False) w W0 := by rw [← hW0]; exact Upd.alloc _ _ _
  have C0 := hC.upd hu0 fun _ _ h => h
  have L0 := hL.upd hu0 fun _ _ h => h
  have hltC := hC.foot_lt
  have hltL := hL.foot_lt
  have hfw := World.block_lt_of_cell? w _ f0
  dsimp only at hfw
  have g0 := bkeep hb0 f0
  have g1 := bkeep hb0 f1
  have g2 := bkeep hb0 f2
  have g3 := bkeep hb0 f3
  have HC0 := Lib.hid C0
  have HL0 := Lib.hid L0
  have HAP := Lib.hid hap
  have HTC := Lib.hid hltC
  have HTL := Lib.hid hltL
  have HX := Lib.hid hx0
  have MC := Lib.hid mC
  have ML := Lib.hid mL
  have HFC := Lib.hid hfC
  have HFL := Lib.hid hfL
  have HB0 := Lib.hid hb0
  have SC := Lib.hid sC
  have SL := Lib.hid sL
  clear hC hL hap C0 L0 hltC hltL hx0 mC mL hfC hfL hb0 f0 f1 f2 f3 sC sL
  go_enter Try.func99, Try.ntmps99
  go_wp2_with fail
  have acc := access_any B gC cC vC LC lineC waysC at_ cnt W0 HC0.out (by omega) a1 (by omega) (by omega) (by omega) a5 a6 MC.out ha hc
  refine acc.mono ?_
  rintro e W1 ⟨vC1, vo, rfl, hs1, ho1, hap1, hfr1, hu1, hz1⟩
  rw [vals_linesL] at hs1 ho1
  obtain ⟨Ao, co, rfl, hrd1⟩ := own_rd ho1
  obtain ⟨R, hR⟩ : ∃ R, runL LC.length waysC LC (linI lineC at_ cnt) = R := ⟨_, rfl⟩
  have hRl : R.1.length = LC.length := by rw [← hR]; exact runL_length _ _ _ _
  have hRs := runL_sub LC.length waysC (linI lineC at_ cnt) LC
  rw [hR] at hs1 ho1 hrd1 hRs ⊢
  have hU : ∀ x ∈ R.2, 0 ≤ x ∧ x < 4294967296 := fun x hx => by
    have h := hRs.1 x hx
    unfold linI at h
    obtain ⟨j, _, rfl⟩ := List.mem_map.1 h
    exact lineNo_range lineC at_ (by omega) (by omega) j
  have hRn : R.2.length ≤ 65538 := by
    have h1 := hRs.2
    have h2 := nLines_le lineC at_ cnt a1 ha.1 hc
    rw [linI_len] at h1
    omega
  have hfar := farL_le lineC ll LL.length lw b1 ⟨by omega, by omega⟩
  have hI1 : MemI W0 B gC cC gL cL vC1 vC vL vL R.1 LL W1 := by
    refine ⟨hs1, HL0.out.upd hu1 fun k hk e => HAP.out k e hk, fun k hk e => ?_, fun k hk => ?_, fun k hk => .inl hk, hu1.mono fun k hk => .inl (by rw [hRl]; exact hk)⟩
    · rw [hRl] at hk
      rcases hfr1 k hk with h | h
      · exact HAP.out k h e
      · have := (HTL.out k e).2; omega
    · rw [hRl] at hk ⊢
      rcases hfr1 k hk with h | h
      · exact .inl h
      · exact .inr (by omega)
  have hrow : ∀ k, (Value.slice Ao R.2.length co).ownBlock = some k → ¬ foot gL vL LL.length k := fun k hk e => by
    have h1 := (ho1.lt k hk).1
    have h2 := (HTL.out k e).2
    omega
  have q0 : ∀ W, Upd (fun k => foot gC vC R.1.length k ∨ foot gL vL LL.length k) W0 W → W.cell? ⟨w.heap.size, 0, none⟩ = some (.int .i64 lineC) ∧ W.cell? ⟨fb, 20, none⟩ = some (.int .i64 ll) ∧ W.cell? ⟨fb, 21, none⟩ = some (.int .i64 (LL.length : Int)) ∧ W.cell? ⟨fb, 22, none⟩ = some (.int .i64 lw) ∧ W.cell? ⟨fb, 23, none⟩ = some (.slice (some ⟨gL, 0, none⟩) LL.length cL) := fun W hu => by
    have hn : ¬ (foot gC vC R.1.length w.heap.size ∨ foot gL vL LL.length w.heap.size) := fun h => by
      rw [hRl] at h
      rcases h with h | h
      · have := (HTC.out _ h).2; omega
      · have := (HTL.out _ h).2; omega
    have hf : ¬ (foot gC vC R.1.length fb ∨ foot gL vL LL.length fb) := fun h => by
      rw [hRl] at h
      exact h.elim HFC.out HFL.out
    exact ⟨cell_upd hu p0 hn, cell_upd hu g0 hf, cell_upd hu g1 hf, cell_upd hu g2 hf, cell_upd hu g3 hf⟩
  have hlc : IntKind.u32.wrap lineC = lineC := by rw [IntKind.wrap_u32]; omega
  have Q0 := Lib.hid q0
  have HU := Lib.hid hU
  have HFAR := Lib.hid hfar
  have HRL := Lib.hid hRl
  have HI1 := Lib.hid (show MemI W0 B gC cC gL cL vC1 vC vL vL R.1 (farL lineC ll LL.length lw LL (R.2.take 0)).1 W1 ∧ W1.ownsRow (W0.heap.size + 5) 30 1 (.slice Ao R.2.length co) R.2.length (nums .u32 R.2) ∧ ∀ k, (Value.slice Ao R.2.length co).ownBlock = some k → ¬ foot gL vL LL.length k from ⟨hI1, ho1, hrow⟩)
  clear q0 hU hfar hRl hRs hs1 ho1 hrd1 hap1 hfr1 hu1 hI1 hrow p0 p1 p2 p3 g0 g1 g2 g3
  have HRE := Lib.hid hR
  clear hR
  go_wp2_with fail
  go_loopw [8, 9, 17] (fun nr fr i wr => ∃ k : Nat, k ≤ R.2.length ∧ nr = .int .i64 k ∧ i = .int .i64 k ∧ (∃ d : Nat, fr = .int .i64 d ∧ Hid ((farL lineC ll LL.length lw LL (R.2.take k)).2 = d)) ∧ ∃ vLk, Hid (MemI W0 B gC cC gL cL vC1 vC vLk vL R.1 (farL lineC ll LL.length lw LL (R.2.take k)).1 wr ∧ wr.ownsRow (W0.heap.size + 5) 30 1 (.slice Ao R.2.length co) R.2.length (nums .u32 R.2) ∧ ∀ k, (Value.slice Ao R.2.length co).ownBlock = some k → ¬ foot gL vLk LL.length k)) (fun _ _ i _ => R.2.length - (intOf i).toNat)
  case atStart => exact ⟨0, Nat.zero_le _, rfl, rfl, ⟨0, rfl, Lib.hid rfl⟩, vL, HI1⟩
  case round =>
    obtain ⟨k, hk, rfl, rfl, ⟨d, rfl, hd⟩, vLk, hI⟩ := hrel
    by_cases hlt : k < R.2.length
    · obtain ⟨hM, hro, hrw⟩ := hI.out
      obtain ⟨u0, u1, u2, u3, u4⟩ := Q0.out wr (hM.upd.mono fun k hk => by rw [farL_length] at hk; exact hk)
      obtain ⟨A2, c2, e2, hrd⟩ := own_rd hro
      cases e2
      obtain ⟨ad, rfl, hcell⟩ := RdI.at (xs := R.2) hrd k hlt
      obtain ⟨x1, x2⟩ := HU.out _ (gi_mem R.2 k hlt)
      have hsnoc : R.2.take (k + 1) = R.2.take k ++ [gi R.2 k] := by rw [List.take_succ_eq_append_getElem hlt, gi_get R.2 k hlt]
      obtain ⟨x, hx⟩ : ∃ x, gi R.2 k = x := ⟨_, rfl⟩
      rw [hx] at hcell x1 x2 hsnoc
      obtain ⟨z, hz⟩ : ∃ z, IntKind.u32.wrap (x * lineC) = z := ⟨_, rfl⟩
      have hz12 : 0 ≤ z ∧ z < 4294967296 := by rw [← hz, IntKind.wrap_u32]; omega
      have hfl : (farL lineC ll LL.length lw LL (R.2.take k)).1.length = LL.length := farL_length _ _ _ _ _ _
      have hsm : Small lw (farL lineC ll LL.length lw LL (R.2.take k)).1 := farL_small _ ML.out
      have hdl : d ≤ 4300000000 := by
        have h1 := HFAR.out (R.2.take k) LL
        rw [hd.out, List.length_take] at h1
        have h2 : min k R.2.length ≤ 65538 := by omega
        have h3 := Nat.mul_le_mul_right 65538 h2
        omega
      have hsw := hM.upd.size
      have hstep := farL_snoc lineC ll LL.length lw (R.2.take k) x LL
      rw [← hsnoc, hz, hd.out] at hstep
      obtain ⟨LK, hLK⟩ : ∃ LK, (farL lineC ll LL.length lw LL (R.2.take k)).1 = LK := ⟨_, rfl⟩
      rw [hLK] at hM hfl hsm hstep
      have HM := Lib.hid hM
      have HRO := Lib.hid hro
      have HRW := Lib.hid hrw
      have HSM := Lib.hid hsm
      have HFL2 := Lib.hid hfl
      have HST := Lib.hid hstep
      have hwds : wr.drew.heap.size = wr.heap.size := rfl
      have HUD := Lib.hid (Upd.drew (fun _ => False) wr)
      obtain ⟨hz1, hz2⟩ := hz12
      clear hM hro hrw hsm hstep hrd hsnoc hx hfl hLK
      go_wp2_with fail
      have acc := access_any B gL cL vLk LK ll lw z lineC wr.drew (HM.out.l.upd HUD.out fun _ _ h => h) (by omega) b1 (by omega) (by have := HFL2.out; omega) (by have := HFL2.out; omega) b5 b6 HSM.out ⟨hz1, hz2⟩ ⟨by omega, by omega⟩
      rw [HFL2.out, vals_linesL] at acc
      have HACC := Lib.hid acc
      obtain ⟨r, hr⟩ : ∃ r, runL LL.length lw LK (linI ll z lineC) = r := ⟨_, rfl⟩
      rw [hr] at HACC
      have hq4 : ∀ W4, Upd (foot gL vLk LL.length) wr.drew W4 → Upd (fun k => foot gC vC R.1.length k ∨ foot gL vL LL.length k) W0 W4 := fun W4 h => by
        have h1 := HM.out.upd
        rw [HFL2.out] at h1
        refine (h1.trans (Upd.drew (fun _ => False) wr) fun _ h => h.elim).trans h fun k hk => ?_
        have h2 := HM.out.freshL k (by rw [HFL2.out]; exact hk)
        rw [HFL2.out] at h2
        exact h2.imp .inr id
      have Q4 := Lib.hid hq4
      clear acc hq4
      go_region_held3 (fun W' => W'.cell? ⟨w.heap.size, 0, none⟩ = some (.int .i64 lineC) ∧ W'.cell? ⟨fb, 20, none⟩ = some (.int .i64 ll) ∧ W'.cell? ⟨fb, 21, none⟩ = some (.int .i64 (LL.length : Int)) ∧ W'.cell? ⟨fb, 22, none⟩ = some (.int .i64 lw) ∧ W'.cell? ⟨fb, 23, none⟩ = some (.slice (some ⟨gL, 0, none⟩) LL.length cL)) (first | exact ⟨u0, u1, u2, u3, u4⟩ | exact Q0.out _ (Q4.out _ hu4))
        (first
          | (go_at_call 74; refine HACC.out.mono ?_; rintro e W4 ⟨vL4, vo4, rfl, hs4, ho4, hap4, hfr4, hu4, hz4⟩; obtain ⟨A4, c4, rfl, _⟩ := own_rd ho4))
      have hst := HST.out
      rw [hr] at hst
      have hrl : r.1.length = LL.length := by rw [← hr, runL_length]; exact HFL2.out
      have hr65 : r.2.length ≤ 65538 := by
        have h1 := (runL_sub LL.length lw (linI ll z lineC) LK).2
        have h2 := nLines_le ll z lineC b1 hz1 ⟨by omega, by omega⟩
        rw [linI_len] at h1
        rw [hr] at h1
        omega
      have hM4 : MemI W0 B gC cC gL cL vC1 vC vL4 vL R.1 r.1 W4 := (HM.out.far (W' := W4) (LL' := r.1) (hrl.trans HFL2.out.symm) hs4 (fun k hk => by
        rw [HFL2.out] at hk ⊢
        exact (hfr4 k hk).imp id fun h => h) (by rw [HFL2.out]; exact (HUD.out.mono (fun _ h => h.elim)).trans hu4 fun _ h => .inl h))
      have hro4 := own_upd (own_upd HRO.out HUD.out fun _ _ h => h) hu4 fun k hk => HRW.out k hk
      have hrw4 : ∀ k, (Value.slice (some ad) R.2.length co).ownBlock = some k → ¬ foot gL vL4 LL.length k := fun k hk e => by
        rcases hfr4 k e with h | h
        · exact HRW.out k hk h
        · have := (HRO.out.lt k hk).2; omega
      have hst1 : (farL lineC ll LL.length lw LL (R.2.take (k + 1))).1 = r.1 := by rw [hst]
      have hst2 : (farL lineC ll LL.length lw LL (R.2.take (k + 1))).2 = d + r.2.length := by rw [hst]
      have HN := Lib.hid (show MemI W0 B gC cC gL cL vC1 vC vL4 vL R.1 (farL lineC ll LL.length lw LL (R.2.take (k + 1))).1 W4 ∧ W4.ownsRow (W0.heap.size + 5) 30 1 (.slice (some ad) R.2.length co) R.2.length (nums .u32 R.2) ∧ ∀ k, (Value.slice (some ad) R.2.length co).ownBlock = some k → ¬ foot gL vL4 LL.length k from ⟨by rw [hst1]; exact hM4, hro4, hrw4⟩)
      have HN2 := Lib.hid hst2
      obtain ⟨m, hm⟩ : ∃ m, r.2.length = m := ⟨_, rfl⟩
      rw [hm] at hr65 HN2 ⊢
      clear hst hs4 ho4 hap4 hfr4 hu4 hM4 hro4 hrw4 hst1 hst2 hr hrl hm
      go_wp2_with fail
      go_roundw
      case rel => exact ⟨k + 1, by omega, by go_num, by go_num, ⟨d + m, by (congr 1; simp [IntKind.wrap_i64]; omega), HN2⟩, vL4, HN⟩
      case measure => simp [intOf]; omega
    · obtain rfl : k = R.2.length := by omega
      have hI' := hI.out.1
      have hd' := hd.out
      rw [List.take_length] at hI' hd'
      have HI := Lib.hid hI'
      have HD := Lib.hid hd'
      clear hI hI' hd' hd
      go_wp2
      go_ret2
      have e1 := HD.out
      have e2 := HRE.out
      have e3 := HI.out
      subst e1
      subst e2
      exact ⟨vC1, vLk, W0, rfl, e3, HB0.out⟩
end Go.Proofs.Ytdkacdfhapgboaa
