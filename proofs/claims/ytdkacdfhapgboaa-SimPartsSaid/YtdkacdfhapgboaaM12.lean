/- Part 12 of the texts that the proof stands on: FeedO, CallB, FeedQ, SlJ. -/
import Derived.Test.YtdkacdfhapgboaaM11
import Derived.Deep.AppendLies

/- sim.Feed in full: the handlers, in the loop's own words. -/
set_option linter.unusedVariables false
set_option linter.unusedSimpArgs false
namespace Go.Proofs.Ytdkacdfhapgboaa
open Go.RowKit

def FP.gc (P : FP) (hh : Nat) : GC := ⟨P.il, P.iw, P.dl, P.dw, P.ll, P.lw, P.pr, hh⟩
/-- An event behind its handler: the simulation, and the numbers of its instruction. -/
def GS.hand (K : GC) (s : GS) (e : List Int) (i : Nat) : GS := { (s.acts K e (gn s.N i)).1 with N := s.N.set i (s.acts K e (gn s.N i)).2 }
/-- How a handler ends. -/
structure HandE (P : FP) (K : GC) (s : GS) (e : List Int) (i g c : Nat) (B gP cP : Nat) (W' : World) : Prop where
  ex : ∃ uI uD uL vR, GI P (s.hand K e i) (.slice (some ⟨g, 0, none⟩) s.N.length c) uI uD uL B gP cP vR W'
/-- The numbers before a handler. -/
def NumsOk (r : List Int) : Prop := ∀ j, 1 ≤ j → j < 14 → 0 ≤ gi r j ∧ gi r j ≤ 2199023255552
theorem GI.at {P : FP} {s : GS} {g c : Nat} {uI uD uL : List Value} {B gP cP : Nat} {vR : Value} {W : World} (h : GI P s (.slice (some ⟨g, 0, none⟩) s.N.length c) uI uD uL B gP cP vR W) (i : Nat) (hi : i < s.N.length) :
    ∃ cur, W.heap[g]? = some (.cells cur 79 (0, 0)) ∧ ∀ j, 1 ≤ j → j < 14 → cur[i * 14 + j]? = some (.int .i64 (gi (gn s.N i) j)) := by
  obtain ⟨g', c', cur, e, hb, hc⟩ := h.row.block i hi
  cases e
  refine ⟨cur, hb, fun j h1 hj => ?_⟩
  obtain ⟨k, rfl⟩ : ∃ k, j = k + 1 := ⟨j - 1, by omega⟩
  exact hc (k + 1) hj

theorem GI.execG {P : FP} {s : GS} {g c : Nat} {uI uD uL : List Value} {B gP cP : Nat} {vR : Value} {W : World} (h : GI P s (.slice (some ⟨g, 0, none⟩) s.N.length c) uI uD uL B gP cP vR W) (hh : Nat) (e : List Int) (i : Nat) (hi : i < s.N.length) (hx : NumsOk (gn s.N i)) (s1 : shapeB P.il P.nI P.iw = true) (s3 : shapeB P.ll P.nL P.lw = true)
    (he : gi e 0 = 1) (hpc : 0 ≤ gi e 2 ∧ gi e 2 < 4294967296) (hn : 1 ≤ gi e 5 ∧ gi e 5 ≤ 65536) :
    Calls Try.prog 81 #[.pointer (some ⟨P.fb, 0, none⟩), .pointer (some ⟨g, i * 14, none⟩), .agg #[.int .i64 (gi e 0), .int .i64 (gi e 1), .int .u32 (gi e 2), .int .u32 (gi e 3), .int .u32 (gi e 4), .int .i64 (gi e 5)]] W fun x W' => x = .returned (.tuple #[]) ∧ HandE P (P.gc hh) s e i g c B gP cP W' := by
  obtain ⟨cur, hb, hc⟩ := h.at i hi
  have ho := (h.row.out g rfl).1
  refine (exec_any P.B P.fb P.gI P.kI P.gL P.kL g (i * 14) uI uL s.I s.L P.il P.iw P.ll P.lw cur _ (gi (gn s.N i) 1) (gi (gn s.N i) 2) (gi (gn s.N i) 3) (gi e 0) (gi e 1) (gi e 2) (gi e 3) (gi e 4) (gi e 5) W (h.fi.handI s1 s3) hb (hc 1 (by omega) (by omega)) (hc 2 (by omega) (by omega)) (hc 3 (by omega) (by omega))
    (fun hk => ho (.inl (by rw [← h.fi.nI]; exact hk))) (fun hk => ho (.inr (.inr (by rw [← h.fi.nL]; exact hk)))) (hx 1 (by omega) (by omega)) (hx 2 (by omega) (by omega)) (hx 3 (by omega) (by omega)) hpc hn).mono ?_
  rintro x W' ⟨rfl, vC', vL', W0, W1, M, b0, hW'⟩
  have h1 := h.memI b0 _ _ M
  have h2 := h1.add i 1 hi (by omega) (by omega) (runL s.I.length P.iw s.I (linI P.il (gi e 2) (gi e 5))).2.length (farL P.il P.ll s.L.length P.lw s.L (runL s.I.length P.iw s.I (linI P.il (gi e 2) (gi e 5))).2).2 _ rfl
  refine ⟨rfl, vC', uD, vL', vR, ?_⟩
  have hS : s.hand (P.gc hh) e i = { s with I := (runL s.I.length P.iw s.I (linI P.il (gi e 2) (gi e 5))).1, L := (farL P.il P.ll s.L.length P.lw s.L (runL s.I.length P.iw s.I (linI P.il (gi e 2) (gi e 5))).2).1, N := s.N.set i (addC (gn s.N i) 1 (runL s.I.length P.iw s.I (linI P.il (gi e 2) (gi e 5))).2.length (farL P.il P.ll s.L.length P.lw s.L (runL s.I.length P.iw s.I (linI P.il (gi e 2) (gi e 5))).2).2) } := by
    unfold GS.hand GS.acts
    rw [if_pos he]
    rfl
  rw [hS, hW']
  exact h2
theorem GI.loadG {P : FP} {s : GS} {g c : Nat} {uI uD uL : List Value} {B gP cP : Nat} {vR : Value} {W : World} (h : GI P s (.slice (some ⟨g, 0, none⟩) s.N.length c) uI uD uL B gP cP vR W) (hh : Nat) (e : List Int) (i : Nat) (hi : i < s.N.length) (hx : NumsOk (gn s.N i)) (s2 : shapeB P.dl P.nD P.dw = true) (s3 : shapeB P.ll P.nL P.lw = true)
    (he : gi e 0 = 2) (ha : 0 ≤ gi e 3 ∧ gi e 3 < 4294967296) (hn : 1 ≤ gi e 5 ∧ gi e 5 ≤ 65536) :
    Calls Try.prog 82 #[.pointer (some ⟨P.fb, 0, none⟩), .pointer (some ⟨g, i * 14, none⟩), .agg #[.int .i64 (gi e 0), .int .i64 (gi e 1), .int .u32 (gi e 2), .int .u32 (gi e 3), .int .u32 (gi e 4), .int .i64 (gi e 5)]] W fun x W' => x = .returned (.tuple #[]) ∧ HandE P (P.gc hh) s e i g c B gP cP W' := by
  obtain ⟨cur, hb, hc⟩ := h.at i hi
  have ho := (h.row.out g rfl).1
  refine (load_any P.B P.fb P.gD P.kD P.gL P.kL g (i * 14) uD uL s.D s.L P.dl P.dw P.ll P.lw cur _ (gi (gn s.N i) 4) (gi (gn s.N i) 5) (gi (gn s.N i) 6) (gi e 0) (gi e 1) (gi e 2) (gi e 3) (gi e 4) (gi e 5) W (h.fi.handD s2 s3) hb (hc 4 (by omega) (by omega)) (hc 5 (by omega) (by omega)) (hc 6 (by omega) (by omega))
    (fun hk => ho (.inr (.inl (by rw [← h.fi.nD]; exact hk)))) (fun hk => ho (.inr (.inr (by rw [← h.fi.nL]; exact hk)))) (hx 4 (by omega) (by omega)) (hx 5 (by omega) (by omega)) (hx 6 (by omega) (by omega)) ha hn).mono ?_
  rintro x W' ⟨rfl, vC', vL', W0, W1, M, b0, hW'⟩
  have h1 := h.memD b0 _ _ M
  have h2 := h1.add i 4 hi (by omega) (by omega) (runL s.D.length P.dw s.D (linI P.dl (gi e 3) (gi e 5))).2.length (farL P.dl P.ll s.L.length P.lw s.L (runL s.D.length P.dw s.D (linI P.dl (gi e 3) (gi e 5))).2).2 _ rfl
  refine ⟨rfl, uI, vC', vL', vR, ?_⟩
  have hS : s.hand (P.gc hh) e i = { s with D := (runL s.D.length P.dw s.D (linI P.dl (gi e 3) (gi e 5))).1, L := (farL P.dl P.ll s.L.length P.lw s.L (runL s.D.length P.dw s.D (linI P.dl (gi e 3) (gi e 5))).2).1, N := s.N.set i (addC (gn s.N i) 4 (runL s.D.length P.dw s.D (linI P.dl (gi e 3) (gi e 5))).2.length (farL P.dl P.ll s.L.length P.lw s.L (runL s.D.length P.dw s.D (linI P.dl (gi e 3) (gi e 5))).2).2) } := by
    unfold GS.hand GS.acts
    rw [if_neg (by omega)]
    rw [if_pos he]
    rfl
  rw [hS, hW']
  exact h2
theorem GI.storeG {P : FP} {s : GS} {g c : Nat} {uI uD uL : List Value} {B gP cP : Nat} {vR : Value} {W : World} (h : GI P s (.slice (some ⟨g, 0, none⟩) s.N.length c) uI uD uL B gP cP vR W) (hh : Nat) (e : List Int) (i : Nat) (hi : i < s.N.length) (hx : NumsOk (gn s.N i)) (s2 : shapeB P.dl P.nD P.dw = true) (s3 : shapeB P.ll P.nL P.lw = true)
    (he : gi e 0 = 3) (ha : 0 ≤ gi e 3 ∧ gi e 3 < 4294967296) (hn : 1 ≤ gi e 5 ∧ gi e 5 ≤ 65536) :
    Calls Try.prog 83 #[.pointer (some ⟨P.fb, 0, none⟩), .pointer (some ⟨g, i * 14, none⟩), .agg #[.int .i64 (gi e 0), .int .i64 (gi e 1), .int .u32 (gi e 2), .int .u32 (gi e 3), .int .u32 (gi e 4), .int .i64 (gi e 5)]] W fun x W' => x = .returned (.tuple #[]) ∧ HandE P (P.gc hh) s e i g c B gP cP W' := by
  obtain ⟨cur, hb, hc⟩ := h.at i hi
  have ho := (h.row.out g rfl).1
  refine (store_any P.B P.fb P.gD P.kD P.gL P.kL g (i * 14) uD uL s.D s.L P.dl P.dw P.ll P.lw cur _ (gi (gn s.N i) 7) (gi (gn s.N i) 8) (gi (gn s.N i) 9) (gi e 0) (gi e 1) (gi e 2) (gi e 3) (gi e 4) (gi e 5) W (h.fi.handD s2 s3) hb (hc 7 (by omega) (by omega)) (hc 8 (by omega) (by omega)) (hc 9 (by omega) (by omega))
    (fun hk => ho (.inr (.inl (by rw [← h.fi.nD]; exact hk)))) (fun hk => ho (.inr (.inr (by rw [← h.fi.nL]; exact hk)))) (hx 7 (by omega) (by omega)) (hx 8 (by omega) (by omega)) (hx 9 (by omega) (by omega)) ha hn).mono ?_
  rintro x W' ⟨rfl, vC', vL', W0, W1, M, b0, hW'⟩
  have h1 := h.memD b0 _ _ M
  have h2 := h1.add i 7 hi (by omega) (by omega) (runL s.D.length P.dw s.D (linI P.dl (gi e 3) (gi e 5))).2.length (farL P.dl P.ll s.L.length P.lw s.L (runL s.D.length P.dw s.D (linI P.dl (gi e 3) (gi e 5))).2).2 _ rfl
  refine ⟨rfl, uI, vC', vL', vR, ?_⟩
  have hS : s.hand (P.gc hh) e i = { s with D := (runL s.D.length P.dw s.D (linI P.dl (gi e 3) (gi e 5))).1, L := (farL P.dl P.ll s.L.length P.lw s.L (runL s.D.length P.dw s.D (linI P.dl (gi e 3) (gi e 5))).2).1, N := s.N.set i (addC (gn s.N i) 7 (runL s.D.length P.dw s.D (linI P.dl (gi e 3) (gi e 5))).2.length (farL P.dl P.ll s.L.length P.lw s.L (runL s.D.length P.dw s.D (linI P.dl (gi e 3) (gi e 5))).2).2) } := by
    unfold GS.hand GS.acts
    rw [if_neg (by omega)]
    rw [if_neg (by omega)]
    rw [if_pos he]
    rfl
  rw [hS, hW']
  exact h2
theorem GI.atomicG {P : FP} {s : GS} {g c : Nat} {uI uD uL : List Value} {B gP cP : Nat} {vR : Value} {W : World} (h : GI P s (.slice (some ⟨g, 0, none⟩) s.N.length c) uI uD uL B gP cP vR W) (hh : Nat) (e : List Int) (i : Nat) (hi : i < s.N.length) (hx : NumsOk (gn s.N i)) (s2 : shapeB P.dl P.nD P.dw = true) (s3 : shapeB P.ll P.nL P.lw = true)
    (he : gi e 0 = 4) (ha : 0 ≤ gi e 3 ∧ gi e 3 < 4294967296) (hn : 1 ≤ gi e 5 ∧ gi e 5 ≤ 65536) :
    Calls Try.prog 84 #[.pointer (some ⟨P.fb, 0, none⟩), .pointer (some ⟨g, i * 14, none⟩), .agg #[.int .i64 (gi e 0), .int .i64 (gi e 1), .int .u32 (gi e 2), .int .u32 (gi e 3), .int .u32 (gi e 4), .int .i64 (gi e 5)]] W fun x W' => x = .returned (.tuple #[]) ∧ HandE P (P.gc hh) s e i g c B gP cP W' := by
  obtain ⟨cur, hb, hc⟩ := h.at i hi
  have ho := (h.row.out g rfl).1
  refine (atomic_any P.B P.fb P.gD P.kD P.gL P.kL g (i * 14) uD uL s.D s.L P.dl P.dw P.ll P.lw cur _ (gi (gn s.N i) 4) (gi (gn s.N i) 5) (gi (gn s.N i) 6) (gi (gn s.N i) 7) (gi e 0) (gi e 1) (gi e 2) (gi e 3) (gi e 4) (gi e 5) W (h.fi.handD s2 s3) hb (hc 4 (by omega) (by omega)) (hc 5 (by omega) (by omega)) (hc 6 (by omega) (by omega)) (hc 7 (by omega) (by omega))
    (fun hk => ho (.inr (.inl (by rw [← h.fi.nD]; exact hk)))) (fun hk => ho (.inr (.inr (by rw [← h.fi.nL]; exact hk)))) (hx 4 (by omega) (by omega)) (hx 5 (by omega) (by omega)) (hx 6 (by omega) (by omega)) (hx 7 (by omega) (by omega)) ha hn).mono ?_
  rintro x W' ⟨rfl, vC', vL', W0, W1, M, b0, hW'⟩
  have h1 := h.memD b0 _ _ M
  have h2 := h1.add i 4 hi (by omega) (by omega) (runL s.D.length P.dw s.D (linI P.dl (gi e 3) (gi e 5))).2.length (farL P.dl P.ll s.L.length P.lw s.L (runL s.D.length P.dw s.D (linI P.dl (gi e 3) (gi e 5))).2).2 _ rfl
  have hl : (gn s.N i).length = 14 := by rw [gn_get s.N i hi]; exact h.row.len _ (List.getElem_mem hi)
  have h3 := h2.stored' (by simp) i 7 hi (by omega) (by omega) (gi (gn s.N i) 7 + 1) (s.N.set i (add1 (addC (gn s.N i) 4 (runL s.D.length P.dw s.D (linI P.dl (gi e 3) (gi e 5))).2.length (farL P.dl P.ll s.L.length P.lw s.L (runL s.D.length P.dw s.D (linI P.dl (gi e 3) (gi e 5))).2).2) 7)) (by
    have e1 : gn (s.N.set i (addC (gn s.N i) 4 (runL s.D.length P.dw s.D (linI P.dl (gi e 3) (gi e 5))).2.length (farL P.dl P.ll s.L.length P.lw s.L (runL s.D.length P.dw s.D (linI P.dl (gi e 3) (gi e 5))).2).2)) i = (addC (gn s.N i) 4 (runL s.D.length P.dw s.D (linI P.dl (gi e 3) (gi e 5))).2.length (farL P.dl P.ll s.L.length P.lw s.L (runL s.D.length P.dw s.D (linI P.dl (gi e 3) (gi e 5))).2).2) := by simp [gn, List.getD_eq_getElem?_getD, hi]
    show s.N.set i (add1 (addC (gn s.N i) 4 (runL s.D.length P.dw s.D (linI P.dl (gi e 3) (gi e 5))).2.length (farL P.dl P.ll s.L.length P.lw s.L (runL s.D.length P.dw s.D (linI P.dl (gi e 3) (gi e 5))).2).2) 7) = (s.N.set i (addC (gn s.N i) 4 (runL s.D.length P.dw s.D (linI P.dl (gi e 3) (gi e 5))).2.length (farL P.dl P.ll s.L.length P.lw s.L (runL s.D.length P.dw s.D (linI P.dl (gi e 3) (gi e 5))).2).2)).set i ((gn (s.N.set i (addC (gn s.N i) 4 (runL s.D.length P.dw s.D (linI P.dl (gi e 3) (gi e 5))).2.length (farL P.dl P.ll s.L.length P.lw s.L (runL s.D.length P.dw s.D (linI P.dl (gi e 3) (gi e 5))).2).2)) i).set 7 (gi (gn s.N i) 7 + 1))
    rw [e1, List.set_set]
    congr 1
    unfold add1
    rw [addC_gi _ _ _ _ hl (by omega) 7 (by omega)]
    simp)
  refine ⟨rfl, uI, vC', vL', vR, ?_⟩
  have hS : s.hand (P.gc hh) e i = { s with D := (runL s.D.length P.dw s.D (linI P.dl (gi e 3) (gi e 5))).1, L := (farL P.dl P.ll s.L.length P.lw s.L (runL s.D.length P.dw s.D (linI P.dl (gi e 3) (gi e 5))).2).1, N := s.N.set i (add1 (addC (gn s.N i) 4 (runL s.D.length P.dw s.D (linI P.dl (gi e 3) (gi e 5))).2.length (farL P.dl P.ll s.L.length P.lw s.L (runL s.D.length P.dw s.D (linI P.dl (gi e 3) (gi e 5))).2).2) 7) } := by
    unfold GS.hand GS.acts
    rw [if_neg (by omega)]
    rw [if_neg (by omega)]
    rw [if_neg (by omega)]
    rw [if_pos he]
    rfl
  rw [hS, hW']
  exact h3

theorem gi_set (c : List Int) (j k : Nat) (x : Int) (hj : j < c.length) (hk : k < c.length) : gi (c.set j x) k = if j = k then x else gi c k := by
  rw [gi_get _ _ (by simpa using hk), gi_get _ _ hk, List.getElem_set]
theorem GI.neG {P : FP} {s : GS} {g c : Nat} {uI uD uL : List Value} {B gP cP : Nat} {vR : Value} {W : World} (h : GI P s (.slice (some ⟨g, 0, none⟩) s.N.length c) uI uD uL B gP cP vR W) : g ≠ P.fb ∧ g ≠ P.pb ∧ g ≠ gP ∧ blk vR ≠ some g :=
  ⟨fun e => (h.row.out g rfl).2 (e ▸ h.fi.xf), fun e => (h.pout _ (.inl rfl)).2.2 (by rw [e]; rfl), fun e => (h.pout _ (.inr (.inl rfl))).2.2 (by rw [e]; rfl), fun e => (h.pout g (.inr (.inr e))).2.2 rfl⟩
/-- What stands behind branch and ret, in the loop's words. -/
theorem GI.brE {P : FP} {s : GS} {g c : Nat} {uI uD uL : List Value} {B gP cP : Nat} {vR vR' : Value} {W W0 W1 W' : World} {cs' rs' : List Int} {hist' : Int} (h : GI P s (.slice (some ⟨g, 0, none⟩) s.N.length c) uI uD uL B gP cP vR W) (i j : Nat) (hi : i < s.N.length) (hj : 1 ≤ j) (hj2 : j + 1 < 14) (right : Bool)
    (b0 : Below W.heap.size W W0) (hp : OwnP W1 B P.pb P.pt P.ph P.pr gP cP cs' hist' vR' rs') (hv : ∀ k, blk vR' = some k → blk vR = some k)
    (hu : Upd (fun k => k = P.pb ∨ k = gP ∨ blk vR = some k) (W0.setCell ⟨g, i * 14 + j, none⟩ (.int .i64 (gi (gn s.N i) j + 1))) W1) (hW : W' = if right then W1 else W1.setCell ⟨g, i * 14 + (j + 1), none⟩ (.int .i64 (gi (gn s.N i) (j + 1) + 1))) :
    GI P { s with cs := cs', hist := hist', rs := rs', N := s.N.set i (if right then add1 (gn s.N i) j else add1 (add1 (gn s.N i) j) (j + 1)) } (.slice (some ⟨g, 0, none⟩) s.N.length c) uI uD uL B gP cP vR' W' := by
  have hl : (gn s.N i).length = 14 := by rw [gn_get s.N i hi]; exact h.row.len _ (List.getElem_mem hi)
  have h0 := h.below b0
  have h1 := h0.stored' rfl i j hi hj (by omega) (gi (gn s.N i) j + 1) _ rfl
  have h2 := h1.pred hu hp fun k hk => .inl (hv k hk)
  cases right
  · rw [if_neg (by simp)] at hW
    rw [if_neg (by simp), hW]
    refine h2.stored' (by simp) i (j + 1) hi (by omega) hj2 (gi (gn s.N i) (j + 1) + 1) _ ?_
    have e1 : gn (s.N.set i ((gn s.N i).set j (gi (gn s.N i) j + 1))) i = (gn s.N i).set j (gi (gn s.N i) j + 1) := by simp [gn, List.getD_eq_getElem?_getD, hi]
    show s.N.set i (add1 (add1 (gn s.N i) j) (j + 1)) = (s.N.set i ((gn s.N i).set j (gi (gn s.N i) j + 1))).set i ((gn (s.N.set i ((gn s.N i).set j (gi (gn s.N i) j + 1))) i).set (j + 1) (gi (gn s.N i) (j + 1) + 1))
    rw [e1, List.set_set]
    unfold add1
    rw [gi_set _ _ _ _ (by omega) (by omega), if_neg (by omega)]
  · rw [if_pos rfl] at hW
    rw [if_pos rfl, hW]
    exact h2
theorem GI.branchG {P : FP} {s : GS} {g c : Nat} {uI uD uL : List Value} {B gP cP : Nat} {vR : Value} {W : World} (h : GI P s (.slice (some ⟨g, 0, none⟩) s.N.length c) uI uD uL B gP cP vR W) (hh : Nat) (e : List Int) (i : Nat) (hi : i < s.N.length) (hx : NumsOk (gn s.N i)) (hph : P.ph = (hh : Int)) (h12 : hh ≤ 12) (hn : 1 ≤ s.cs.length) (hhist : 0 ≤ s.hist ∧ s.hist < 4294967296) (hcs : ∀ x ∈ s.cs, 0 ≤ x ∧ x ≤ 3)
    (he : gi e 0 = 5) (hpc : 0 ≤ gi e 2 ∧ gi e 2 < 4294967296) (heb : 0 ≤ gi e 4 ∧ gi e 4 ≤ 1) :
    Calls Try.prog 85 #[.pointer (some ⟨P.fb, 0, none⟩), .pointer (some ⟨g, i * 14, none⟩), .agg #[.int .i64 (gi e 0), .int .i64 (gi e 1), .int .u32 (gi e 2), .int .u32 (gi e 3), .int .u32 (gi e 4), .int .i64 (gi e 5)]] W fun x W' => x = .returned (.tuple #[]) ∧ HandE P (P.gc hh) s e i g c B gP cP W' := by
  obtain ⟨cur, hb, hc⟩ := h.at i hi
  obtain ⟨n0, n1, n2, n3⟩ := h.neG
  have hp := h.p
  rw [hph] at hp
  refine (branch_any B P.fb P.pb g (i * 14) P.pt P.pr hh gP cP s.cs s.hist vR s.rs cur _ (gi (gn s.N i) 10) (gi (gn s.N i) 11) (gi e 0) (gi e 1) (gi e 2) (gi e 3) (gi e 4) (gi e 5) W hp (boxAt h.fi.box rfl) hb (hc 10 (by omega) (by omega)) (hc 11 (by omega) (by omega)) n0 n1 n2 n3 (hx 10 (by omega) (by omega)) (hx 11 (by omega) (by omega)) h12 hn hpc hhist hcs heb).mono ?_
  rintro x W' ⟨rfl, ⟨W0, W1, b0, hO, hu, hW'⟩⟩
  rw [← hph] at hO
  have h1 := h.brE i 10 hi (by omega) (by omega) _ b0 hO (fun k hk => hk) (hu.mono fun k hk => hk.elim .inl fun h => .inr (.inl h)) hW'
  refine ⟨rfl, uI, uD, uL, vR, ?_⟩
  have hS : s.hand (P.gc hh) e i = { s with cs := s.cs.set (ctrI (gi e 2) s.hist s.cs.length).toNat (trainC (gi s.cs (ctrI (gi e 2) s.hist s.cs.length).toNat) (gi e 4 == 1)), hist := trainH hh s.hist (gi e 4 == 1), N := s.N.set i (if trainR (gi s.cs (ctrI (gi e 2) s.hist s.cs.length).toNat) (gi e 4 == 1) then add1 (gn s.N i) 10 else add1 (add1 (gn s.N i) 10) 11) } := by
    unfold GS.hand GS.acts
    rw [if_neg (by omega), if_neg (by omega), if_neg (by omega), if_neg (by omega), if_pos he]
    rfl
  rw [hS]
  rw [hph] at h1
  exact h1
theorem GI.retG {P : FP} {s : GS} {g c : Nat} {uI uD uL : List Value} {B gP cP : Nat} {vR : Value} {W : World} (h : GI P s (.slice (some ⟨g, 0, none⟩) s.N.length c) uI uD uL B gP cP vR W) (hh : Nat) (e : List Int) (i : Nat) (hi : i < s.N.length) (hx : NumsOk (gn s.N i)) (hrl : s.rs.length ≤ 1000) (he : gi e 0 = 7) :
    Calls Try.prog 86 #[.pointer (some ⟨P.fb, 0, none⟩), .pointer (some ⟨g, i * 14, none⟩), .agg #[.int .i64 (gi e 0), .int .i64 (gi e 1), .int .u32 (gi e 2), .int .u32 (gi e 3), .int .u32 (gi e 4), .int .i64 (gi e 5)]] W fun x W' => x = .returned (.tuple #[]) ∧ HandE P (P.gc hh) s e i g c B gP cP W' := by
  obtain ⟨cur, hb, hc⟩ := h.at i hi
  obtain ⟨n0, n1, n2, n3⟩ := h.neG
  refine (retH_any B P.fb P.pb g (i * 14) P.pt P.ph P.pr gP cP s.cs s.hist vR s.rs cur _ (gi (gn s.N i) 12) (gi (gn s.N i) 13) (gi e 0) (gi e 1) (gi e 2) (gi e 3) (gi e 4) (gi e 5) W h.p (boxAt h.fi.box rfl) hb (hc 12 (by omega) (by omega)) (hc 13 (by omega) (by omega)) n0 n1 n2 n3 (hx 12 (by omega) (by omega)) (hx 13 (by omega) (by omega)) hrl).mono ?_
  rintro x W' ⟨rfl, ⟨W0, W1, b0, ⟨v', hO, hv⟩, hu, hW'⟩⟩
  have h1 := h.brE i 12 hi (by omega) (by omega) _ b0 hO (fun k hk => by rcases hv with h2 | h2; rw [h2] at hk; cases hk; rw [← h2]; exact hk) (hu.mono fun k hk => hk.elim .inl fun h => .inr (.inr h)) hW'
  refine ⟨rfl, uI, uD, uL, v', ?_⟩
  have hS : s.hand (P.gc hh) e i = { s with rs := s.rs.dropLast, N := s.N.set i (if retB s.rs (gi e 3) then add1 (gn s.N i) 12 else add1 (add1 (gn s.N i) 12) 13) } := by
    unfold GS.hand GS.acts
    rw [if_neg (by omega), if_neg (by omega), if_neg (by omega), if_neg (by omega), if_neg (by omega)]
  rw [hS]
  exact h1
end Go.Proofs.Ytdkacdfhapgboaa

/- The predictor's call, with the place of the returns behind it. (printed by gen/callb.py from XCallR) -/
set_option linter.unusedVariables false
set_option linter.unusedSimpArgs false
namespace Go.Proofs.Ytdkacdfhapgboaa
open Go.RowKit

attribute [local irreducible] World.setCell in
set_option maxRecDepth 100000 in
set_option maxHeartbeats 1000000 in
theorem call_any2 (B b : Nat) (t h r : Int) (g c : Nat) (cs : List Int) (hist : Int) (v : Value) (rs : List Int) (a : Int) (w : World) (H : OwnP w B b t h r g c cs hist v rs) (hB : B ≤ w.heap.size) (hl : rs.length ≤ 1000) :
    Calls Try.prog 52 #[.pointer (some ⟨b, 0, none⟩), .int .u32 a] w fun e w' => e = .returned (.tuple #[]) ∧ ∃ v', OwnP w' B b t h r g c cs hist v' (callL r rs a) ∧ Upd (fun k => k = b ∨ blk v = some k) w w' ∧ (∀ k, blk v' = some k → blk v = some k ∨ w.heap.size ≤ k) := by
  obtain ⟨A, cv, rfl, hcv, hA, _⟩ := H.ret.slice
  rw [nums_length] at H hcv ⊢
  obtain ⟨W0, hW0⟩ : ∃ W0, w.alloc (.cells #[.int .u32 a] 30) = W0 := ⟨_, rfl⟩
  have hu0 : ∀ F, Upd F w W0 := fun F => by rw [← hW0]; exact Upd.alloc _ _ _
  have H0 : OwnP W0 B b t h r g c cs hist (.slice A rs.length cv) rs :=
    ⟨by rw [(hu0 (fun _ => False)).block b (Array.getElem?_eq_some_iff.1 H.box).1 id]; exact H.box, own_upd H.cnt (hu0 (fun _ => False)) fun _ _ h => h, H.ret.upd (hu0 (fun _ => False)) fun _ _ h => h, H.ge⟩
  obtain ⟨i0, hi, hz0, hz1, hz2⟩ := info_parts info_u32
  have hqc : W0.cell? ⟨w.heap.size, 0, none⟩ = some (.int .u32 a) := by
    have := heap_alloc_new w (.cells #[.int .u32 a] 30)
    rw [← hW0]
    simp only [World.cell?, this]
    rfl
  obtain ⟨v', W1, hrun, ho1, hu1, hbk⟩ := run_append_win (P := Try.prog) (t := 22) (ty := 22) Try.underlying22 hi hz0 hz1 hz2 rfl H0.ret (by have := (hu0 (fun _ => False)).size; omega) hqc rfl (by simp [maxLen]; omega) (by simp; omega)
  have ho1' : OwnW W1 B 30 v' (nums .u32 (rs ++ [a])) := by rw [nums_append]; exact ho1
  obtain ⟨H2, hbb⟩ := H0.setRet hu1 ho1'
  obtain ⟨g2, off2, c', rfl, hc'⟩ : ∃ g2 off2 c', v' = .slice (some ⟨g2, off2, none⟩) (nums .u32 (rs ++ [a])).length c' ∧ (nums .u32 (rs ++ [a])).length ≤ c' := by
    rcases ho1'.shape with ⟨_, e⟩ | ⟨g2, off2, c', cur, e, _, _, e2, _⟩
    · simp [nums] at e
    · exact ⟨g2, off2, c', e, e2⟩
  have hln : (nums .u32 (rs ++ [a])).length = rs.length + 1 := by simp
  rw [hln] at H2 hc' hrun hbk
  obtain ⟨W2, hW2⟩ : ∃ W2, W1.setCell ⟨b, 5, none⟩ (.slice (some ⟨g2, off2, none⟩) (rs.length + 1) c') = W2 := ⟨_, rfl⟩
  rw [hW2] at H2
  obtain ⟨_, _, _, _, _, w5, _⟩ := box6 H.box
  obtain ⟨_, _, _, _, _, u5, uf⟩ := box6 (hbb.trans H0.box)
  obtain ⟨_, _, v2, _, _, v5, vf⟩ := box6 H2.box
  have hgb := H.gne
  have hu2 : Upd (fun k => k = b ∨ blk (.slice A rs.length cv) = some k) w W2 := by
    rw [← hW2]
    exact ((hu0 (fun k => k = b ∨ blk (.slice A rs.length cv) = some k)).trans hu1 fun k h => .inl (.inr h)).set (.inl rfl) 5 _
  have HBK := Lib.hid (show ∀ k, g2 = k → blk (.slice A rs.length cv) = some k ∨ w.heap.size ≤ k from fun k hk => by
    rcases hbk with h1 | ⟨k', h1, h2⟩
    · exact .inl (by rw [← h1, ← hk]; rfl)
    · have e : g2 = k' := Option.some.inj h1
      have := (hu0 (fun _ => False)).size
      exact .inr (by omega))
  have HH2 := Lib.hid H2
  have HU2 := Lib.hid hu2
  have HR := Lib.hid H2.ret
  clear H2 hu2 hu1 ho1 ho1' H0 H hbb hbk hu0 hqc
  by_cases hgt : r < (rs.length : Int) + 1
  · have hcl : callL r rs a = (rs ++ [a]).drop 1 := by unfold callL; rw [decide_eq_true (by simp; omega)]
    by_cases hc1 : c' = 1
    · subst hc1
      have hrs : rs = [] := List.eq_nil_of_length_eq_zero (by omega)
      have hrl : rs.length = 0 := by rw [hrs]; rfl
      have hnew : ∀ q, OwnP ((W2.drewN q).setCell ⟨b, 5, none⟩ (.slice (some ⟨g2, off2, none⟩) 0 0)) B b t h r g c cs hist (.slice (some ⟨g2, off2, none⟩) 0 0) (callL r rs a) := fun q => by
        rw [hcl, hrs]
        exact ((HH2.out.drewN q).setRet (Upd.refl _ _) (HR.out.drewN q).none0).1
      have HNEW := Lib.hid hnew
      clear hcl hnew hrs hrl
      go_enter Try.func52, Try.ntmps52
      go_wp2_with (at_builtin; refine wpList_append_eq (by rfl) (.tmp 9) (.tmp 11) 22 22 (by rfl) _ _ (by rfl) (by rfl) hrun ?_)
      go_wp2
      go_quiet (fail)
      go_wp2
      go_end0
      exact ⟨rfl, _, HNEW.out nq, ((HU2.out.trans (Upd.drewN (fun k => k = b ∨ blk (.slice A rs.length cv) = some k) _ nq) fun k h => .inl h).set (.inl rfl) 5 _), fun k hk => HBK.out k (Option.some.inj hk)⟩
    · have hnew : ∀ q, OwnP ((W2.drewN q).setCell ⟨b, 5, none⟩ (.slice (some ⟨g2, off2 + 1, none⟩) rs.length (c' - 1))) B b t h r g c cs hist (.slice (some ⟨g2, off2 + 1, none⟩) rs.length (c' - 1)) (callL r rs a) := fun q => by
        rw [hcl]
        obtain ⟨y, ys, hy⟩ : ∃ y ys, rs ++ [a] = y :: ys := by
          cases h : rs ++ [a] with
          | nil => simp at h
          | cons y ys => exact ⟨y, ys, rfl⟩
        have hyl : ys.length = rs.length := by have := congrArg List.length hy; simp at this; omega
        have hr := HR.out.drewN q
        rw [hy] at hr ⊢
        have e1 : nums .u32 (y :: ys) = .int .u32 y :: nums .u32 ys := rfl
        have e2 : rs.length + 1 = (nums .u32 ys).length + 1 := by simp [hyl]
        rw [e1, e2] at hr
        have := hr.tail
        rw [nums_length, hyl] at this
        exact ((HH2.out.drewN q).setRet (Upd.refl _ _) this).1
      have HNEW := Lib.hid hnew
      have hc2 : ¬ 1 = c' := fun e => hc1 e.symm
      have hc3 : (1 : Int) ≤ (c' : Int) := by omega
      clear hcl hnew
      go_enter Try.func52, Try.ntmps52
      go_wp2_with (at_builtin; refine wpList_append_eq (by rfl) (.tmp 9) (.tmp 11) 22 22 (by rfl) _ _ (by rfl) (by rfl) hrun ?_)
      go_wp2
      go_quiet (fail)
      go_wp2
      go_end0
      exact ⟨rfl, _, HNEW.out nq, ((HU2.out.trans (Upd.drewN (fun k => k = b ∨ blk (.slice A rs.length cv) = some k) _ nq) fun k h => .inl h).set (.inl rfl) 5 _), fun k hk => HBK.out k (Option.some.inj hk)⟩
  · have hcl : callL r rs a = rs ++ [a] := by unfold callL; rw [decide_eq_false (by simp; omega)]
    go_enter Try.func52, Try.ntmps52
    go_wp2_with (at_builtin; refine wpList_append_eq (by rfl) (.tmp 9) (.tmp 11) 22 22 (by rfl) _ _ (by rfl) (by rfl) hrun ?_)
    go_wp2
    go_quiet (fail)
    go_wp2
    go_end0
    refine ⟨rfl, .slice (some ⟨g2, off2, none⟩) (rs.length + 1) c', by rw [hcl]; exact HH2.out.drewN nq, (HU2.out.trans (Upd.drewN (fun k => k = b ∨ blk (.slice A rs.length cv) = some k) _ nq) fun k h => .inl h), fun k hk => HBK.out k (Option.some.inj hk)⟩
end Go.Proofs.Ytdkacdfhapgboaa

/- sim.Feed in full: a call; numbers of a new instruction. -/
set_option linter.unusedVariables false
set_option linter.unusedSimpArgs false
namespace Go.Proofs.Ytdkacdfhapgboaa
open Go.RowKit

/-- How a call ends. -/
structure CallE (P : FP) (s : GS) (vN : Value) (uI uD uL : List Value) (B gP cP : Nat) (vR : Value) (W W' : World) : Prop where
  ex : ∃ vR', GI P s vN uI uD uL B gP cP vR' W'
  upd : Upd (fun k => k = P.pb ∨ k = gP ∨ blk vR = some k) W W'
theorem GI.callG {P : FP} {s : GS} {vN : Value} {uI uD uL : List Value} {B gP cP : Nat} {vR : Value} {W : World} (h : GI P s vN uI uD uL B gP cP vR W) (hh : Nat) (e : List Int) (he : gi e 0 = 6) (hrl : s.rs.length ≤ 1000) (hB : B ≤ W.heap.size) :
    Calls Try.prog 52 #[.pointer (some ⟨P.pb, 0, none⟩), .int .u32 (gi e 4)] W fun x W' => x = .returned (.tuple #[]) ∧ CallE P (s.called (P.gc hh) e) vN uI uD uL B gP cP vR W W' := by
  refine (call_any2 B P.pb P.pt P.ph P.pr gP cP s.cs s.hist vR s.rs (gi e 4) W h.p hB hrl).mono ?_
  rintro x W' ⟨rfl, v', hO, hu, hv⟩
  have hu2 := hu.mono (G := fun k => k = P.pb ∨ k = gP ∨ blk vR = some k) fun k hk => hk.elim .inl fun h => .inr (.inr h)
  refine ⟨rfl, ⟨v', ?_⟩, hu2⟩
  have hS : s.called (P.gc hh) e = { s with rs := callL P.pr s.rs (gi e 4) } := by
    unfold GS.called
    rw [if_pos he]
    rfl
  rw [hS]
  exact h.pred hu2 hO hv
theorem FI.setN {P : FP} {S : FS} {vN : Value} {uI uD uL : List Value} {W : World} (h : FI P S vN uI uD uL W) (vN' : Value) : FI P S vN' uI uD uL (W.setCell ⟨P.fb, 30, none⟩ vN') := by
  have hu : Upd (fun k => k = P.fb) W (W.setCell ⟨P.fb, 30, none⟩ vN') := Upd.setCell W ⟨P.fb, 30, none⟩ _
  have hs := hu.size
  have ho := (h.out _ h.xf).2
  refine ⟨h.feet.upd hu fun k hk (e : k = P.fb) => ho (by rw [h.nI, h.nD, h.nL, e] at hk; exact hk), by have := h.ge; omega, h.nI, h.nD, h.nL, h.sI, h.sD, h.sL, set1_heap h.box 30 _, (hu.block _ (h.out _ h.xm).1 h.mf).trans h.mp,
    fun b hb => ⟨by have := (h.out b hb).1; omega, (h.out b hb).2⟩, h.xf, h.xm, h.mf, h.keep.trans hu fun b hb => .inl (.inr hb)⟩
/-- The row of numbers has grown by one instruction, and the feeder holds it. -/
theorem GI.insert {P : FP} {s : GS} {vN vN' : Value} {uI uD uL : List Value} {B gP cP : Nat} {vR : Value} {W W1 W2 : World} {i : Nat} {r : List Int} (h : GI P s vN uI uD uL B gP cP vR W) (b1 : Below W.heap.size W W1)
    (ho : W2.ownsRow P.B 79 14 vN' (s.N.length + 1) ((s.N.flatMap cntCells).take (i * 14) ++ (cntCells r ++ (s.N.flatMap cntCells).drop (i * 14)))) (hg : W1.grownBy W2 vN.ownBlock) (hv : ∀ k, vN'.ownBlock = some k → vN.ownBlock = some k ∨ W.heap.size ≤ k) (hi : i ≤ s.N.length) (hr : r.length = 14) :
    GI P { s with N := s.N.take i ++ r :: s.N.drop i } vN' uI uD uL B gP cP vR (W2.setCell ⟨P.fb, 30, none⟩ vN') := by
  have h1 := h.below b1
  have hu := Upd.of_grown hg
  have hfl := h.fi.feet.lt
  have hlen : (s.N.take i ++ r :: s.N.drop i).length = s.N.length + 1 := by simp; omega
  have hs1 := b1.size
  have hx : ∀ k, vN'.ownBlock = some k → ¬ P.feet uI uD uL k ∧ ¬ P.X k := fun k hk => by
    rcases hv k hk with h2 | h2
    · exact h.row.out k h2
    · refine ⟨fun e => ?_, fun e => ?_⟩
      · have := hfl k (by have := h.fi.nI; have := h.fi.nD; have := h.fi.nL; simp_all); omega
      · have := (h.fi.out k e).1; omega
  have hfb : Upd (fun k => k = P.fb) W2 (W2.setCell ⟨P.fb, 30, none⟩ vN') := Upd.setCell W2 ⟨P.fb, 30, none⟩ _
  refine ⟨(h1.fi.aside hu fun k hk => h1.row.out k hk).setN vN', ⟨?_, hx, fun y hy => ?_⟩, ?_, fun k hk => ⟨(h.pout k hk).1, (h.pout k hk).2.1, fun e => ?_⟩⟩
  · rw [hlen, flat_ins cntCells_len]
    exact own_upd ho hfb fun k hk (e : k = P.fb) => (hx k hk).2 (e ▸ h.fi.xf)
  · rcases List.mem_append.1 hy with h2 | h2
    · exact h.row.len y (List.mem_of_mem_take h2)
    · rcases List.mem_cons.1 h2 with h3 | h3
      · rw [h3]; exact hr
      · exact h.row.len y (List.mem_of_mem_drop h3)
  · exact (h1.p.upd hu fun k hk e => (h.pout k hk).2.2 e).upd hfb fun k hk (e : k = P.fb) => (h.pout k hk).2.1 (e ▸ h.fi.xf)
  · rcases hv k e with h2 | h2
    · exact (h.pout k hk).2.2 h2
    · have := h.p.lt k hk; omega
/-- The numbers of an instruction, by their addresses. -/
theorem GI.numRd {P : FP} {s : GS} {g c : Nat} {uI uD uL : List Value} {B gP cP : Nat} {vR : Value} {W W7 : World} (h : GI P s (.slice (some ⟨g, 0, none⟩) s.N.length c) uI uD uL B gP cP vR W) (i : Nat) (hi : i < s.N.length) {r : Nat} (hb : Below W.heap.size W W7) (hr : W7.heap[r]? = some (.cells (ptrs g (i * 14)).toArray 101 (0, 0))) : NumRd W7 r g (i * 14) (cntX (gn s.N i)) := by
  obtain ⟨cur, hg, hc⟩ := h.at i hi
  refine ⟨cntX_len _, hr, fun j hj => ?_⟩
  refine bkeep hb (boxAt hg ?_)
  rw [cntX_gi _ _ hj]
  exact hc (j + 1) (by omega) (by omega)
end Go.Proofs.Ytdkacdfhapgboaa

/- slices.Insert of one element at []candling/api.SimCount, in a row of the call's own: at the end, with room, without. -/
set_option linter.unusedVariables false
set_option linter.unusedSimpArgs false
namespace Go.Proofs.Ytdkacdfhapgboaa
open Go.RowKit

theorem info_cnt_i : (Try.prog.info? 79).map (fun i => (i.zero, i.size, i.bytes)) = some (some (Value.agg #[Value.int .u32 0, Value.int .i64 0, Value.int .i64 0, Value.int .i64 0, Value.int .i64 0, Value.int .i64 0, Value.int .i64 0, Value.int .i64 0, Value.int .i64 0, Value.int .i64 0, Value.int .i64 0, Value.int .i64 0, Value.int .i64 0, Value.int .i64 0]), 14, 112) := by kernel_rfl
theorem size_cnt (w : World) : (Go.sizeOf 79).run Try.prog w = .ok 14 w := by kernel_rfl

set_option maxRecDepth 100000 in
theorem insert_cnt_end (B n c i q : Nat) (g : Nat) (cs news : List Value) (w : World) (h : w.ownsRow B 79 14 (Value.slice (some ⟨g, 0, none⟩) n c) n cs) (hi : i = n)
    (hq : w.heap[q]? = some (.cells news.toArray 79 (0, 0))) (hnl : news.length = 14) (hne : (Value.slice (some ⟨g, 0, none⟩) n c).ownBlock ≠ some q) (h1 : ∀ u ∈ cs, u.oneCell' = true) (h1n : ∀ u ∈ news, u.oneCell' = true)
    (hB : B ≤ w.heap.size) (hby : (n + 1) * 112 ≤ 140737488355328) :
    Calls Try.prog 64 #[Value.slice (some ⟨g, 0, none⟩) n c, .int .i64 (i : Int), .slice (some ⟨q, 0, none⟩) 1 1] w fun e w' =>
      ∃ g' c', e = .returned (.slice (some ⟨g', 0, none⟩) (n + 1) c') ∧ w'.ownsRow B 79 14 (.slice (some ⟨g', 0, none⟩) (n + 1) c') (n + 1) (cs.take (i * 14) ++ (news ++ cs.drop (i * 14))) ∧ w.grownBy w' (Value.slice (some ⟨g, 0, none⟩) n c).ownBlock ∧ ((Value.slice (some ⟨g, 0, none⟩) n c).ownBlock = some g' ∨ w.heap.size ≤ g') := by
  have H := Lib.hid h
  have H1 := Lib.hid h1
  have H1n := Lib.hid h1n
  have HQ := Lib.hid hq
  have HNL := Lib.hid hnl
  have HNE := Lib.hid hne
  have HBY := Lib.hid hby
  have hcl := Lib.hid h.1
  clear h h1 h1n hq hnl hne hby
  obtain ⟨i0, hi0, hz0, hz1, hz2⟩ := info_parts info_cnt_i
  have HNC : Hid (∀ j u, news[j]? = some u → w.cell? ((⟨q, 0, none⟩ : Addr).add j) = some u) := fun j u hu => by
    have e : (⟨q, 0, none⟩ : Addr).add j = ⟨q, j, none⟩ := by unfold Addr.add; split <;> simp_all
    rw [e]
    simp [World.cell?, HQ.out, hu]
  have t1 : ((1 : Int) == 0) = false := by decide
  have q0 : (0 : Int) ≤ (i : Int) := by omega
  have q1 : (i : Int) ≤ (n : Int) := by omega
  have t2 : ((i : Int) == (n : Int)) = true := by simp; omega
  have HI := Lib.hid hi
  clear hi
  have hd : (c = i) = True ∨ (c = i) = False := by by_cases h : c = i <;> simp [h]
  rcases hd with hd | hd
  all_goals
    go_enter Try.func64, Try.ntmps64
    go_wp2_with (at_builtin; go_loud (refine wpList_append_lies _ (by rfl) (.tmp 23) (.tmp 24) 65 (by rfl) B 79 i0 (Value.agg #[Value.int .u32 0, Value.int .i64 0, Value.int .i64 0, Value.int .i64 0, Value.int .i64 0, Value.int .i64 0, Value.int .i64 0, Value.int .i64 0, Value.int .i64 0, Value.int .i64 0, Value.int .i64 0, Value.int .i64 0, Value.int .i64 0, Value.int .i64 0]) 14 112 Try.underlying65 hi0 hz0 hz1 hz2 rfl (by decide) (Value.slice (some ⟨g, 0, none⟩) n c) n cs (by rfl) H.out ⟨q, 0, none⟩ 1 1 news (by rfl) HNL.out HNC.out H1n.out (by decide) (by have := HBY.out; unfold maxLen; omega) (by have := HBY.out; omega) hB w.heap.size rfl ?_); intro g cap w1 hown hgrow hat hlt)
    go_ret
    refine ⟨g, cap, rfl, ?_, hgrow, ?_⟩
    · have e : cs.length = i * 14 := by rw [hcl.out, HI.out]
      rw [← e, List.take_length, List.drop_length, List.append_nil]
      exact hown
    · rcases hat with e | e
      · exact .inl e
      · exact .inr (by omega)

set_option maxRecDepth 100000 in
theorem insert_cnt_shift (B n c i q : Nat) (g : Nat) (cs news : List Value) (w : World) (h : w.ownsRow B 79 14 (Value.slice (some ⟨g, 0, none⟩) n c) n cs) (hi : i < n)
    (hq : w.heap[q]? = some (.cells news.toArray 79 (0, 0))) (hnl : news.length = 14) (hne : (Value.slice (some ⟨g, 0, none⟩) n c).ownBlock ≠ some q) (h1 : ∀ u ∈ cs, u.oneCell' = true) (h1n : ∀ u ∈ news, u.oneCell' = true)
    (hB : B ≤ w.heap.size) (hby : (n + 1) * 112 ≤ 140737488355328) (hroom : n + 1 ≤ c) :
    Calls Try.prog 64 #[Value.slice (some ⟨g, 0, none⟩) n c, .int .i64 (i : Int), .slice (some ⟨q, 0, none⟩) 1 1] w fun e w' =>
      ∃ g' c', e = .returned (.slice (some ⟨g', 0, none⟩) (n + 1) c') ∧ w'.ownsRow B 79 14 (.slice (some ⟨g', 0, none⟩) (n + 1) c') (n + 1) (cs.take (i * 14) ++ (news ++ cs.drop (i * 14))) ∧ w.grownBy w' (Value.slice (some ⟨g, 0, none⟩) n c).ownBlock ∧ ((Value.slice (some ⟨g, 0, none⟩) n c).ownBlock = some g' ∨ w.heap.size ≤ g') := by
  have H := Lib.hid h
  have H1 := Lib.hid h1
  have H1n := Lib.hid h1n
  have HQ := Lib.hid hq
  have HNL := Lib.hid hnl
  have HNE := Lib.hid hne
  have HBY := Lib.hid hby
  have hcl := Lib.hid h.1
  clear h h1 h1n hq hnl hne hby
  obtain ⟨i0, hi0, hz0, hz1, hz2⟩ := info_parts info_cnt_i
  have HNC : Hid (∀ j u, news[j]? = some u → w.cell? ((⟨q, 0, none⟩ : Addr).add j) = some u) := fun j u hu => by
    have e : (⟨q, 0, none⟩ : Addr).add j = ⟨q, j, none⟩ := by unfold Addr.add; split <;> simp_all
    rw [e]
    simp [World.cell?, HQ.out, hu]
  have t1 : ((1 : Int) == 0) = false := by decide
  have q0 : (0 : Int) ≤ (i : Int) := by omega
  obtain ⟨cur, hBg, hh, hnc, hcm, hcs, htake⟩ := own_open H.out
  have hg2 := (own_caps H.out).2
  have q1 : (i : Int) ≤ (n : Int) := by omega
  have t2 : ((i : Int) == (n : Int)) = false := by simp; omega
  have t3 : decide ((c : Int) < (n : Int) + 1) = false := by simp; omega
  have q2 : ((n : Int) + 1) ≤ (c : Int) := by omega
  have q3 : ((i : Int) + 1) ≤ (n : Int) + 1 := by omega
  have q4 : (0 : Int) ≤ (i : Int) + 1 := by omega
  have q5 : ¬ c = i + 1 := by omega
  have q6 : ¬ c = i := by omega
  have q7 : (i : Int) ≤ (n : Int) + 1 := by omega
  have q8 : (0 : Int) ≤ (n : Int) + 1 := by omega
  have q9 : i ≤ n := by omega
  have hov : ∀ lb cb, (callFunc 90 #[.slice (some ⟨q, 0, none⟩) 1 1, .slice (some ⟨g, (i + 1) * 14, none⟩) lb cb]).run Try.prog w = .ok (.value (.bool false)) w := fun lb cb => by
    rw [run_callFunc_extern Try.func90 (by kernel_rfl) (by kernel_rfl) (by kernel_rfl) (e := Extern.SlicesOverlaps.overlaps #[65, 65] #[4]) (by kernel_rfl),
      Lib.run_overlaps_apart w 65 4 79 Try.underlying65 14 size_cnt ⟨q, 0, none⟩ ⟨g, (i + 1) * 14, none⟩ 1 1 lb cb (fun e => HNE.out (by simp only at e; rw [e]; rfl)) 79 79 news.length cur.size
        (by simp [World.shape?, HQ.out]) (by simp [World.shape?, hh]) (by rw [hcs]; omega) (by simp [World.frozen?, HQ.out]) (by simp [World.frozen?, HQ.out])]
    rfl
  have hcN : cs.length = n * 14 := hcl.out
  have hfit1 : n * 14 + 14 ≤ cur.size := by rw [hcs]; have := Nat.mul_le_mul_right 14 (show n + 1 ≤ c by omega); rw [Nat.add_mul] at this; omega
  have hi1 : i * 14 ≤ n * 14 := Nat.mul_le_mul_right _ q9
  have hdl : (cs.drop (i * 14)).length = (n - i) * 14 := by rw [List.length_drop, hcN, Nat.sub_mul]
  have hrow : ∀ j u, cs[j]? = some u → w.cell? ⟨g, j, none⟩ = some u := fun j u hu => by
    have hj : j < cs.length := (List.getElem?_eq_some_iff.1 hu).1
    rw [← htake, List.getElem?_take, if_pos (by omega)] at hu
    simp only [World.cell?, hh]
    simpa using hu
  have hcp1 : ∀ ty dc sc, (Builtin.copy_ #[65, 65] ty #[.slice (some ⟨g, (i + 1) * 14, none⟩) (n - i) dc, .slice (some ⟨g, i * 14, none⟩) (n + 1 - i) sc]).run Try.prog w.drew = .ok (goInt ((n - i : Nat) : Int)) (w.drew.setRow g (splice cur.toList ((i + 1) * 14) (cs.drop (i * 14))).toArray) := fun ty dc sc =>
    run_copy_onto Try.underlying65 hi0 hz1 (w := w.drew) hh (cs.drop (i * 14)) (by simp only [Nat.min_def]; split <;> omega) hdl (fun j u hu => by
      rw [List.getElem?_drop] at hu
      have e : (⟨g, i * 14, none⟩ : Addr).add j = ⟨g, i * 14 + j, none⟩ := by unfold Addr.add; split <;> simp_all
      rw [e]; exact hrow _ _ hu) (by rw [hdl]; have := Nat.sub_mul n i 14; omega) (fun u hu => H1.out u (List.mem_of_mem_drop hu))
  have HG1 := Lib.hid (Go.setRow_heap w.drew g cur (splice cur.toList ((i + 1) * 14) (cs.drop (i * 14))).toArray 79 (0, 0) hh)
  have hX : (splice cur.toList ((i + 1) * 14) (cs.drop (i * 14))).length = cur.size := by rw [length_splice _ _ _ (by rw [hdl, Array.length_toList]; have := Nat.sub_mul n i 14; omega)]; simp
  obtain ⟨X, hXe⟩ : ∃ X, X = splice cur.toList ((i + 1) * 14) (cs.drop (i * 14)) := ⟨_, rfl⟩
  rw [← hXe] at hX HG1 hcp1
  have hcp2 : ∀ ty dc, (Builtin.copy_ #[65, 65] ty #[.slice (some ⟨g, i * 14, none⟩) (n + 1 - i) dc, .slice (some ⟨q, 0, none⟩) 1 1]).run Try.prog (w.drew.setRow g X.toArray) = .ok (goInt ((1 : Nat) : Int)) ((w.drew.setRow g X.toArray).setRow g (splice X (i * 14) news).toArray) := fun ty dc => by
    have := run_copy_onto (P := Try.prog) (ty := ty) (sT := 65) (dCap := dc) (sCap := 1) Try.underlying65 hi0 hz1 (w := w.drew.setRow g X.toArray) (o := i * 14) (dLen := n + 1 - i) (sLen := 1) (a := ⟨q, 0, none⟩) HG1.out news (m := 1) (by simp only [Nat.min_def]; split <;> omega) (by rw [HNL.out]) (fun j u hu => by
      have := HNC.out j u hu
      rw [← this]
      exact World.cell?_of_block (setRow_other w.drew g _ _ (fun e => HNE.out (by
        have e2 : (⟨q, 0, none⟩ : Addr).add j = ⟨q, j, none⟩ := by unfold Addr.add; split <;> simp_all
        rw [e2] at e; simp only at e; rw [e]; rfl)))) (by rw [HNL.out]; simp [hX]; omega) H1n.out
    simpa using this
  have hfin : (((w.drew.setRow g X.toArray).setRow g (splice X (i * 14) news).toArray).ownsRow B 79 14 (.slice (some ⟨g, 0, none⟩) (n + 1) c) (n + 1) (cs.take (i * 14) ++ (news ++ cs.drop (i * 14)))) := by
    have hsl : (splice X (i * 14) news).length = cur.size := by rw [length_splice _ _ _ (by rw [HNL.out, hX]; omega), hX]
    refine ⟨by simp [HNL.out, hcN]; omega, .inr ⟨g, c, _, rfl, hBg, Go.setRow_heap _ g _ _ 79 (0, 0) HG1.out, by omega, hcm, by simp [hsl, hcs], ?_⟩⟩
    have := splice_insert cur.toList cs news (i * 14) (by rw [hcN]; exact hi1) (by rw [hcN]; exact htake) (by rw [HNL.out, hcN]; simpa using hfit1)
    rw [HNL.out] at this
    have e3 : i * 14 + 14 = (i + 1) * 14 := by omega
    have e4 : cs.length + 14 = (n + 1) * 14 := by rw [hcN]; omega
    rw [e3, ← hXe, e4] at this
    simp only [Nat.mul_one, List.toList_toArray] at this ⊢
    exact this
  have HF := Lib.hid hfin
  have HG := Lib.hid (gdrew (gtrans (gsetRow w.drew g X.toArray) (gsetRow _ g (splice X (i * 14) news).toArray)))
  clear HG1 hX hfin hrow hdl hi1 hfit1 hcN htake hcs hcm hh HNC H1n H1 HNL HNE HQ HBY hcl
  clear hXe
  have wi : IntKind.i64.wrap ((i : Int) + 1) = (i : Int) + 1 := by rw [IntKind.wrap_i64]; omega
  go_enter Try.func64, Try.ntmps64
  go_wp2_with (simp only [hov])
  go_still_tail 8, (by kernel_rfl)
  refine wpList_copy_eq (by rfl) (.tmp 73) (.tmp 76) 65 65 (by rfl) _ _ (by rfl) (by rfl) (hcp1 _ _ _) ?_
  clear hcp1 hov
  obtain ⟨W1, hW1⟩ : ∃ W1, W1 = w.drew.setRow g X.toArray := ⟨_, rfl⟩
  rw [← hW1] at hcp2 HF HG ⊢
  clear hW1
  go_wp2_with (refine wpList_copy_eq (by rfl) (.tmp 80) (.tmp 81) 65 65 (by rfl) _ _ (by rfl) (by rfl) (hcp2 _ _) ?_)
  go_ret
  exact ⟨g, c, rfl, HF.out, HG.out, .inl rfl⟩

set_option maxRecDepth 100000 in
theorem insert_cnt_grow (B n c i q : Nat) (g : Nat) (cs news : List Value) (w : World) (h : w.ownsRow B 79 14 (Value.slice (some ⟨g, 0, none⟩) n c) n cs) (hi : i < n)
    (hq : w.heap[q]? = some (.cells news.toArray 79 (0, 0))) (hnl : news.length = 14) (hne : (Value.slice (some ⟨g, 0, none⟩) n c).ownBlock ≠ some q) (h1 : ∀ u ∈ cs, u.oneCell' = true) (h1n : ∀ u ∈ news, u.oneCell' = true)
    (hB : B ≤ w.heap.size) (hby : (n + 1) * 112 ≤ 140737488355328) (hroom : ¬ n + 1 ≤ c) :
    Calls Try.prog 64 #[Value.slice (some ⟨g, 0, none⟩) n c, .int .i64 (i : Int), .slice (some ⟨q, 0, none⟩) 1 1] w fun e w' =>
      ∃ g' c', e = .returned (.slice (some ⟨g', 0, none⟩) (n + 1) c') ∧ w'.ownsRow B 79 14 (.slice (some ⟨g', 0, none⟩) (n + 1) c') (n + 1) (cs.take (i * 14) ++ (news ++ cs.drop (i * 14))) ∧ w.grownBy w' (Value.slice (some ⟨g, 0, none⟩) n c).ownBlock ∧ ((Value.slice (some ⟨g, 0, none⟩) n c).ownBlock = some g' ∨ w.heap.size ≤ g') := by
  have H := Lib.hid h
  have H1 := Lib.hid h1
  have H1n := Lib.hid h1n
  have HQ := Lib.hid hq
  have HNL := Lib.hid hnl
  have HNE := Lib.hid hne
  have HBY := Lib.hid hby
  have hcl := Lib.hid h.1
  clear h h1 h1n hq hnl hne hby
  obtain ⟨i0, hi0, hz0, hz1, hz2⟩ := info_parts info_cnt_i
  have HNC : Hid (∀ j u, news[j]? = some u → w.cell? ((⟨q, 0, none⟩ : Addr).add j) = some u) := fun j u hu => by
    have e : (⟨q, 0, none⟩ : Addr).add j = ⟨q, j, none⟩ := by unfold Addr.add; split <;> simp_all
    rw [e]
    simp [World.cell?, HQ.out, hu]
  have t1 : ((1 : Int) == 0) = false := by decide
  have q0 : (0 : Int) ≤ (i : Int) := by omega
  obtain ⟨cur, hBg, hh, hnc, hcm, hcs, htake⟩ := own_open H.out
  have q1 : (i : Int) ≤ (n : Int) := by omega
  have t2 : ((i : Int) == (n : Int)) = false := by simp; omega
  have t3 : decide ((c : Int) < (n : Int) + 1) = true := by simp; omega
  have q3 : ((i : Int) + 1) ≤ (n : Int) + 1 := by omega
  have q4 : (0 : Int) ≤ (i : Int) + 1 := by omega
  have q5 : (i : Int) ≤ (c : Int) := by omega
  have q6 : ¬ c = i := by omega
  have q7 : (i : Int) ≤ (n : Int) + 1 := by omega
  have q8 : (0 : Int) ≤ (n : Int) + 1 := by omega
  have q9 : i ≤ n := by omega
  have hcN : cs.length = n * 14 := hcl.out
  have hi1 : i * 14 ≤ n * 14 := Nat.mul_le_mul_right _ q9
  have hdl : (cs.drop (i * 14)).length = (n - i) * 14 := by rw [List.length_drop, hcN, Nat.sub_mul]
  have hrow : ∀ j u, cs[j]? = some u → w.cell? ⟨g, j, none⟩ = some u := fun j u hu => by
    have hj : j < cs.length := (List.getElem?_eq_some_iff.1 hu).1
    rw [← htake, List.getElem?_take, if_pos (by omega)] at hu
    simp only [World.cell?, hh]
    simpa using hu
  obtain ⟨G, hG⟩ : ∃ G, G = grownCap w (n + 1) c 79 := ⟨_, rfl⟩
  have hGn : n + 1 ≤ G := by rw [hG]; exact grownCap_ge w _ _ _
  have hGm : G ≤ maxLen := by rw [hG]; exact grownCap_le_maxLen w _ _ _ (by have := HBY.out; unfold maxLen; omega)
  obtain ⟨Z, hZ⟩ : ∃ Z : Array Value, Z = (cs.take (i * 14)).toArray ++ Builtin.zeroCells (Value.agg #[Value.int .u32 0, Value.int .i64 0, Value.int .i64 0, Value.int .i64 0, Value.int .i64 0, Value.int .i64 0, Value.int .i64 0, Value.int .i64 0, Value.int .i64 0, Value.int .i64 0, Value.int .i64 0, Value.int .i64 0, Value.int .i64 0, Value.int .i64 0]).cells (n + 1 - i) ++ Builtin.zeroCells (Value.agg #[Value.int .u32 0, Value.int .i64 0, Value.int .i64 0, Value.int .i64 0, Value.int .i64 0, Value.int .i64 0, Value.int .i64 0, Value.int .i64 0, Value.int .i64 0, Value.int .i64 0, Value.int .i64 0, Value.int .i64 0, Value.int .i64 0, Value.int .i64 0]).cells (G - (n + 1)) := ⟨_, rfl⟩
  have hZl : Z.size = G * 14 := by
    rw [hZ]
    have e0 : (Value.agg #[Value.int .u32 0, Value.int .i64 0, Value.int .i64 0, Value.int .i64 0, Value.int .i64 0, Value.int .i64 0, Value.int .i64 0, Value.int .i64 0, Value.int .i64 0, Value.int .i64 0, Value.int .i64 0, Value.int .i64 0, Value.int .i64 0, Value.int .i64 0]).cells.size = 14 := rfl
    simp only [Array.size_append, List.size_toArray, List.length_take, size_zeroCells, e0]
    have := Nat.sub_mul (n + 1) i 14
    have := Nat.sub_mul G (n + 1) 14
    have := Nat.mul_le_mul_right 14 hGn
    rw [Nat.min_eq_left (by omega)]
    omega
  have hap : ∀ ty, (Builtin.append_ #[65, 3] ty #[.slice (some ⟨g, 0, none⟩) i c, .int .i64 ((n : Int) + 1 - (i : Int))]).run Try.prog w = .ok (.slice (some ⟨w.heap.size, 0, none⟩) (n + 1) G) (w.drew.alloc (.cells Z 79)) := fun ty => by
    have hold : (Builtin.firstCells i0.size i (.slice (some ⟨g, 0, none⟩) i c)).run Try.prog w.drew = .ok (cs.take (i * 14)).toArray w.drew := by
      rw [hz1]
      refine run_firstCells_some w.drew 14 i ⟨g, 0, none⟩ i c _ (by rw [List.length_take]; omega) (fun j u hu => ?_)
      rw [List.getElem?_take] at hu
      split at hu
      · have e : (⟨g, 0, none⟩ : Addr).add j = ⟨g, j, none⟩ := by unfold Addr.add; split <;> simp_all
        rw [e]; exact hrow _ _ hu
      · cases hu
    have := Lib.run_append_grow_zeros (P := Try.prog) w 65 3 ty 79 i0 (Value.agg #[Value.int .u32 0, Value.int .i64 0, Value.int .i64 0, Value.int .i64 0, Value.int .i64 0, Value.int .i64 0, Value.int .i64 0, Value.int .i64 0, Value.int .i64 0, Value.int .i64 0, Value.int .i64 0, Value.int .i64 0, Value.int .i64 0, Value.int .i64 0]) .i64 .i64 Try.underlying65 Try.underlying3 hi0 hz0 (some ⟨g, 0, none⟩) i c (cs.take (i * 14)) hold (n + 1 - i) (by omega) (by omega) (by omega) (by have := HBY.out; omega) (by rw [hz2]; have := HBY.out; have := Nat.mul_le_mul_right 112 (show n + 1 - i ≤ n + 1 by omega); omega) (by
      rw [hz2, show i + (n + 1 - i) = n + 1 by omega]
      exact growslice_fits (by omega) HBY.out)
    rw [show i + (n + 1 - i) = n + 1 by omega, ← hG, ← hZ] at this
    rw [show ((n : Int) + 1 - (i : Int)) = ((n + 1 - i : Nat) : Int) by omega]
    exact this
  obtain ⟨W1, hW1⟩ : ∃ W1, W1 = w.drew.alloc (.cells Z 79) := ⟨_, rfl⟩
  rw [← hW1] at hap
  have hhN : W1.heap[w.heap.size]? = some (.cells Z 79 (0, 0)) := by rw [hW1]; exact heap_alloc_new w.drew _
  have hold1 : ∀ k, k < w.heap.size → W1.heap[k]? = w.heap[k]? := fun k hk => by rw [hW1]; exact heap_alloc_old w.drew _ hk
  have hqs : q < w.heap.size := (Array.getElem?_eq_some_iff.1 HQ.out).1
  have hgs : g < w.heap.size := (Array.getElem?_eq_some_iff.1 hh).1
  have hgG := Nat.mul_le_mul_right 14 hGn
  have hcpA : ∀ ty dc, (Builtin.copy_ #[65, 65] ty #[.slice (some ⟨w.heap.size, i * 14, none⟩) (n + 1 - i) dc, .slice (some ⟨q, 0, none⟩) 1 1]).run Try.prog W1 = .ok (goInt ((1 : Nat) : Int)) (W1.setRow w.heap.size (splice Z.toList (i * 14) news).toArray) := fun ty dc =>
    run_copy_onto Try.underlying65 hi0 hz1 (w := W1) hhN news (by simp only [Nat.min_def]; split <;> omega) (by rw [HNL.out]) (fun j u hu => by
      have := HNC.out j u hu
      rw [← this]
      have e2 : (⟨q, 0, none⟩ : Addr).add j = ⟨q, j, none⟩ := by unfold Addr.add; split <;> simp_all
      rw [e2]
      exact World.cell?_of_block (hold1 _ hqs)) (by rw [HNL.out, hZl]; omega) H1n.out
  obtain ⟨Y, hY⟩ : ∃ Y, Y = splice Z.toList (i * 14) news := ⟨_, rfl⟩
  rw [← hY] at hcpA
  have hYl : Y.length = G * 14 := by rw [hY, length_splice _ _ _ (by rw [HNL.out, Array.length_toList, hZl]; omega), Array.length_toList, hZl]
  obtain ⟨W2, hW2⟩ : ∃ W2, W2 = W1.setRow w.heap.size Y.toArray := ⟨_, rfl⟩
  rw [← hW2] at hcpA
  have hhN2 : W2.heap[w.heap.size]? = some (.cells Y.toArray 79 (0, 0)) := by rw [hW2]; exact Go.setRow_heap W1 _ _ _ _ _ hhN
  have hold2 : ∀ k, k < w.heap.size → W2.heap[k]? = w.heap[k]? := fun k hk => by rw [hW2, setRow_other _ _ _ _ (by omega)]; exact hold1 k hk
  have hcpB : ∀ ty dc sc, (Builtin.copy_ #[65, 65] ty #[.slice (some ⟨w.heap.size, (i + 1) * 14, none⟩) (n - i) dc, .slice (some ⟨g, i * 14, none⟩) (n - i) sc]).run Try.prog W2.drew = .ok (goInt ((n - i : Nat) : Int)) (W2.drew.setRow w.heap.size (splice Y ((i + 1) * 14) (cs.drop (i * 14))).toArray) := fun ty dc sc => by
    have := run_copy_onto (P := Try.prog) (ty := ty) (sT := 65) (dCap := dc) (sCap := sc) Try.underlying65 hi0 hz1 (w := W2.drew) (o := (i + 1) * 14) (dLen := n - i) (sLen := n - i) (a := ⟨g, i * 14, none⟩) (m := n - i) hhN2 (cs.drop (i * 14)) (by simp only [Nat.min_def]; split <;> omega) hdl (fun j u hu => by
      rw [List.getElem?_drop] at hu
      have e : (⟨g, i * 14, none⟩ : Addr).add j = ⟨g, i * 14 + j, none⟩ := by unfold Addr.add; split <;> simp_all
      rw [e, ← hrow _ _ hu]
      exact World.cell?_of_block (hold2 g hgs)) (by rw [hdl]; simp [hYl]; have := Nat.sub_mul n i 14; omega) (fun u hu => H1.out u (List.mem_of_mem_drop hu))
    simpa using this
  have hfin : ((W2.drew.setRow w.heap.size (splice Y ((i + 1) * 14) (cs.drop (i * 14))).toArray).ownsRow B 79 14 (.slice (some ⟨w.heap.size, 0, none⟩) (n + 1) G) (n + 1) (cs.take (i * 14) ++ (news ++ cs.drop (i * 14)))) := by
    have hsl : (splice Y ((i + 1) * 14) (cs.drop (i * 14))).length = G * 14 := by rw [length_splice _ _ _ (by rw [hdl, hYl]; have := Nat.sub_mul n i 14; omega), hYl]
    refine ⟨by simp [HNL.out, hcN]; omega, .inr ⟨w.heap.size, G, _, rfl, hB, Go.setRow_heap _ _ _ _ 79 (0, 0) hhN2, by omega, hGm, by simp only [List.size_toArray, hsl], ?_⟩⟩
    have ea : (cs.take (i * 14)).length = i * 14 := by rw [List.length_take]; omega
    have eY : Y.take ((i + 1) * 14) = cs.take (i * 14) ++ news := by
      rw [hY, hZ]
      unfold splice
      have e5 : ((cs.take (i * 14)).toArray ++ Builtin.zeroCells (Value.agg #[Value.int .u32 0, Value.int .i64 0, Value.int .i64 0, Value.int .i64 0, Value.int .i64 0, Value.int .i64 0, Value.int .i64 0, Value.int .i64 0, Value.int .i64 0, Value.int .i64 0, Value.int .i64 0, Value.int .i64 0, Value.int .i64 0, Value.int .i64 0]).cells (n + 1 - i) ++ Builtin.zeroCells (Value.agg #[Value.int .u32 0, Value.int .i64 0, Value.int .i64 0, Value.int .i64 0, Value.int .i64 0, Value.int .i64 0, Value.int .i64 0, Value.int .i64 0, Value.int .i64 0, Value.int .i64 0, Value.int .i64 0, Value.int .i64 0, Value.int .i64 0, Value.int .i64 0]).cells (G - (n + 1))).toList.take (i * 14) = cs.take (i * 14) := by
        simp only [Array.toList_append]
        rw [List.append_assoc, List.take_append_of_le_length (by rw [ea]; omega), List.take_of_length_le (by rw [ea]; omega)]
      rw [e5, ← List.append_assoc, List.take_append_of_le_length (by rw [List.length_append, ea, HNL.out]; omega), List.take_of_length_le (by rw [List.length_append, ea, HNL.out]; omega)]
    simp only [splice]
    rw [eY, ← List.append_assoc, List.take_append_of_le_length (by simp only [List.length_append, ea, HNL.out, hdl]; have := Nat.sub_mul n i 14; omega), List.take_of_length_le (by simp only [List.length_append, ea, HNL.out, hdl]; have := Nat.sub_mul n i 14; omega), List.append_assoc]
  have HF := Lib.hid hfin
  have hg : w.grownBy (W2.drew.setRow w.heap.size (splice Y ((i + 1) * 14) (cs.drop (i * 14))).toArray) (some g) := by
    refine ⟨by rw [hW2, hW1]; rfl, by rw [hW2, hW1]; rfl, by rw [hW2, hW1]; rfl, by rw [hW2, hW1]; simp, fun k hk _ => ?_⟩
    rw [setRow_other _ _ _ _ (by omega)]
    exact hold2 k hk
  have HG := Lib.hid hg
  clear hg hfin
  obtain ⟨W3, hW3⟩ : ∃ W3, W3 = W2.drew.setRow w.heap.size (splice Y ((i + 1) * 14) (cs.drop (i * 14))).toArray := ⟨_, rfl⟩
  rw [← hW3] at hcpB HF HG
  clear hW3
  have hG63 : G ≤ 9223372036854775807 := hGm
  have g1 : ¬ G = i := by omega
  have g2 : ¬ G = i + 1 := by omega
  have g3 : (i : Int) ≤ (n : Int) + 1 := by omega
  clear hold2 hhN2 hYl hgG hold1 hhN hZl hrow hdl hi1 hcN htake hcs hcm hh HNC H1n H1 HNL HNE HQ HBY hcl hGm hY hZ hG hqs hgs
  clear hW1 hW2
  go_enter Try.func64, Try.ntmps64
  have wi : IntKind.i64.wrap ((i : Int) + 1) = (i : Int) + 1 := by rw [IntKind.wrap_i64]; omega
  go_wp2_with (first
    | (at_builtin; refine wpList_append_eq (by rfl) (.tmp 34) (.tmp 39) 65 3 (by rfl) _ _ (by rfl) (by rfl) (hap _) ?_; clear hap)
    | (refine wpList_copy_eq (by rfl) (.tmp 43) (.tmp 44) 65 65 (by rfl) _ _ (by rfl) (by rfl) (hcpA _ _) ?_; clear hcpA))
  go_still_tail 8, (by kernel_rfl)
  refine wpList_copy_eq (by rfl) (.tmp 50) (.tmp 53) 65 65 (by rfl) _ _ (by rfl) (by rfl) (hcpB _ _ _) ?_
  go_wp2
  go_ret
  exact ⟨_, _, rfl, HF.out, HG.out, .inr (Nat.le_refl _)⟩

set_option maxRecDepth 100000 in
theorem insert_cnt_nil (B q : Nat) (news : List Value) (w : World) (hq : w.heap[q]? = some (.cells news.toArray 79 (0, 0))) (hnl : news.length = 14) (h1n : ∀ u ∈ news, u.oneCell' = true) (hB : B ≤ w.heap.size) :
    Calls Try.prog 64 #[.slice none 0 0, .int .i64 0, .slice (some ⟨q, 0, none⟩) 1 1] w fun e w' =>
      ∃ g' c', e = .returned (.slice (some ⟨g', 0, none⟩) 1 c') ∧ w'.ownsRow B 79 14 (.slice (some ⟨g', 0, none⟩) 1 c') 1 news ∧ w.grownBy w' none ∧ w.heap.size ≤ g' := by
  have H1n := Lib.hid h1n
  have HQ := Lib.hid hq
  have HNL := Lib.hid hnl
  clear h1n hq hnl
  obtain ⟨i0, hi0, hz0, hz1, hz2⟩ := info_parts info_cnt_i
  have HNC : Hid (∀ j u, news[j]? = some u → w.cell? ((⟨q, 0, none⟩ : Addr).add j) = some u) := fun j u hu => by
    have e : (⟨q, 0, none⟩ : Addr).add j = ⟨q, j, none⟩ := by unfold Addr.add; split <;> simp_all
    rw [e]
    simp [World.cell?, HQ.out, hu]
  have t1 : ((1 : Int) == 0) = false := by decide
  have t2 : ((0 : Int) == 0) = true := by decide
  go_enter Try.func64, Try.ntmps64
  go_wp2_with (at_builtin; refine wpList_append_lies _ (by rfl) (.tmp 23) (.tmp 24) 65 (by rfl) B 79 i0 (Value.agg #[Value.int .u32 0, Value.int .i64 0, Value.int .i64 0, Value.int .i64 0, Value.int .i64 0, Value.int .i64 0, Value.int .i64 0, Value.int .i64 0, Value.int .i64 0, Value.int .i64 0, Value.int .i64 0, Value.int .i64 0, Value.int .i64 0, Value.int .i64 0]) 14 112 Try.underlying65 hi0 hz0 hz1 hz2 rfl (by decide) (.slice none 0 0) 0 [] (by rfl) (World.ownsRow_nil _ _ _ _) ⟨q, 0, none⟩ 1 1 news (by rfl) HNL.out HNC.out H1n.out (by decide) (by decide) (by decide) hB w.heap.size rfl ?_; intro g cap w1 hown hgrow hat hlt)
  go_ret
  refine ⟨g, cap, rfl, hown, hgrow, ?_⟩
  rcases hat with e | e
  · simp [Value.ownBlock] at e
  · omega

/-- slices.Insert of one element at i, for every row that the call owns (nil too). -/
theorem insert_cnt (B n i q : Nat) (v : Value) (cs news : List Value) (w : World) (h : w.ownsRow B 79 14 v n cs) (hi : i ≤ n)
    (hq : w.heap[q]? = some (.cells news.toArray 79 (0, 0))) (hnl : news.length = 14) (hne : v.ownBlock ≠ some q) (h1 : ∀ u ∈ cs, u.oneCell' = true) (h1n : ∀ u ∈ news, u.oneCell' = true)
    (hB : B ≤ w.heap.size) (hby : (n + 1) * 112 ≤ 140737488355328) :
    Calls Try.prog 64 #[v, .int .i64 (i : Int), .slice (some ⟨q, 0, none⟩) 1 1] w fun e w' =>
      ∃ g' c', e = .returned (.slice (some ⟨g', 0, none⟩) (n + 1) c') ∧ w'.ownsRow B 79 14 (.slice (some ⟨g', 0, none⟩) (n + 1) c') (n + 1) (cs.take (i * 14) ++ (news ++ cs.drop (i * 14))) ∧ w.grownBy w' v.ownBlock ∧ (v.ownBlock = some g' ∨ w.heap.size ≤ g') := by
  have h' := h
  rcases h.2 with ⟨rfl, rfl⟩ | ⟨g, c, cur, rfl, _⟩
  · obtain rfl : i = 0 := by omega
    obtain rfl : cs = [] := List.eq_nil_of_length_eq_zero (by simpa using h.1)
    refine (insert_cnt_nil B q news w hq hnl h1n hB).mono fun e w' ⟨g', c', he, ho, hg, hs⟩ => ⟨g', c', he, by simpa using ho, hg, .inr hs⟩
  · by_cases hin : i = n
    · exact insert_cnt_end B n c i q g cs news w h' hin hq hnl hne h1 h1n hB hby
    · by_cases hr : n + 1 ≤ c
      · exact insert_cnt_shift B n c i q g cs news w h' (by omega) hq hnl hne h1 h1n hB hby hr
      · exact insert_cnt_grow B n c i q g cs news w h' (by omega) hq hnl hne h1 h1n hB hby hr
end Go.Proofs.Ytdkacdfhapgboaa
