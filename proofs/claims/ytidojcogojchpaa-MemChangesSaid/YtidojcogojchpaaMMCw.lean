/- mem's laws: MemWhole. -/
import Derived.Test.YtidojcogojchpaaM04
import Derived.Laws.StructEq
import Derived.Stop.BytesEq
import Derived.LaidEqlPtr
import Derived.Lib.AppendZerosOnto
import Derived.Lib.SliceRun
set_option linter.unusedVariables false
set_option linter.unusedSimpArgs false
namespace Go.Proofs.Ytidojcogojchpaa
open Go.RowKit Go.Shelf

/-- What was poked is read. -/
theorem bytesN_poke (A : PM) (at_ : Int) (bs : List Int) (h0 : 0 ≤ at_ ∧ at_ < 4294967296) (hl : bs.length ≤ 65536) : bytesN (A.poke at_ bs bs.length) at_ bs.length = bs := by
  refine list_gi (bytesN_len _ _ _) fun j hj => ?_
  rw [bytesN_len] at hj
  have hm0 := Int.emod_nonneg (pcAt at_ (j : Int)) (show (256 : Int) ≠ 0 by omega)
  have hm1 := Int.emod_lt_of_pos (pcAt at_ (j : Int)) (show (0 : Int) < 256 by omega)
  have e1 : gi (bytesN (A.poke at_ bs bs.length) at_ bs.length) j = byteAt (A.poke at_ bs bs.length) (pcAt at_ (j : Int)) := by
    rw [gi_get _ _ (by rw [bytesN_len]; exact hj)]
    simp [bytesN]
  rw [e1]
  unfold byteAt
  show gi (pokeB A at_ bs bs.length (pcAt at_ (j : Int) / 256)) _ = _
  rw [pokeB_gi _ _ _ _ _ _ (by omega)]
  have e2 : (pcAt at_ (j : Int) / 256 * 256 + ((pcAt at_ (j : Int) % 256).toNat : Int) - at_) % 4294967296 = (j : Int) := by
    rw [Int.toNat_of_nonneg hm0]
    unfold pcAt
    omega
  rw [e2, if_pos (by omega)]
  simp
theorem wr_true {A : PM} {need at_ : Int} {n : Nat} (h : wrB A need at_ n = true) : allOk A need at_ n ∧ n ≤ 65536 := by
  unfold wrB at h
  split at h
  · cases h
  · exact ⟨firstBad_all (by simpa using h), by omega⟩
theorem bits_zero (x : Int) (h : 0 ≤ x ∧ x ≤ 7) : bits .and .i64 x 0 = 0 := by
  have : x = 0 ∨ x = 1 ∨ x = 2 ∨ x = 3 ∨ x = 4 ∨ x = 5 ∨ x = 6 ∨ x = 7 := by omega
  rcases this with rfl | rfl | rfl | rfl | rfl | rfl | rfl | rfl <;> rfl
theorem peek_poked {A : PM} {at_ need : Int} {bs : List Int} (h0 : 0 ≤ at_ ∧ at_ < 4294967296) (hr : ∀ n ∈ A.ks, 0 ≤ (A.pg n).r ∧ (A.pg n).r ≤ 7) (h : wrB A need at_ bs.length = true) :
    rdB (wrM A need at_ bs) 0 at_ bs.length = true ∧ rdL (wrM A need at_ bs) 0 at_ bs.length = bs := by
  obtain ⟨hok, hl⟩ := wr_true h
  have e : wrM A need at_ bs = A.poke at_ bs bs.length := by unfold wrM; exact if_pos h
  have hok' : allOk (A.poke at_ bs bs.length) 0 at_ bs.length := fun i i0 i1 => ⟨(hok i i0 i1).1, bits_zero _ (hr _ (hok i i0 i1).1)⟩
  obtain ⟨r1, r2, r3⟩ := rd_ok (A := A.poke at_ bs bs.length) (need := 0) (at_ := at_) (n := bs.length) (by omega) (by omega) hok'
  rw [e]
  refine ⟨r2, r3.trans ?_⟩
  rw [Int.toNat_natCast]
  exact bytesN_poke A at_ bs h0 hl
theorem M1.rights {B : Nat} {W : World} {b : Nat} {A : PM} (h : M1 B W b A) : ∀ n ∈ A.ks, 0 ≤ (A.pg n).r ∧ (A.pg n).r ≤ 7 := by
  obtain ⟨S, h1, _⟩ := h.ex
  exact fun n hn => (h1.mem.page n hn).2.r
theorem M1.right {B : Nat} {W : World} {b : Nat} {A : PM} (h : M1 B W b A) (at_ need : Int) (n : Nat) (ha : 0 ≤ at_ ∧ at_ < 4294967296) (hn : n ≤ 65536) (hnd : 0 ≤ need ∧ need ≤ 7) :
    Calls Try.prog 22 #[.pointer (some ⟨b, 0, none⟩), .int .u32 at_, .int .i64 n, .int .i64 need] W fun e w' => e = .returned (.tuple #[.int .u32 (wrA A need at_ n), .bool (wrB A need at_ n)]) ∧ Below W.heap.size W w' := by
  obtain ⟨S, h1, _⟩ := h.ex
  exact right_any W b S A at_ need n h1.mem ha hn hnd
theorem BytesAt.zero {W : World} {B : Nat} {ps : List PV} (h : BytesAt W B ps) : BytesAt W 0 ps := fun p hp => ⟨(h p hp).1, (h p hp).2.1, fun _ _ => Nat.zero_le _⟩
theorem sameP_of {ps qs : List PV} (h : ps.map PV.see = qs.map PV.see) : sameP ps qs = true := decide_eq_true h

set_option maxRecDepth 1000000 in
set_option maxHeartbeats 8000000 in
theorem whole_any (A : Option Addr) (c : Nat) (ps : List PV) (at_ : Int) (D : Option Addr) (cd : Nat) (bs : List Int) (w : World) (hp : PsIn w A c ps) (ha : 0 ≤ at_ ∧ at_ < 4294967296) (hb : BsIn w D cd bs) :
    Calls Try.prog 4 #[.slice A ps.length c, .int .u32 at_, .slice D bs.length cd] w fun e w' => e = .returned (.bool true) ∧ Below w.heap.size w w' := by
  have HP := Lib.hid hp
  have HBS := Lib.hid hb
  have hlen := hp.rd.le
  have hlb := hb.le
  have hcb := hb.cap
  clear hp hb
  go_enter Try.func4, Try.ntmps4
  go_wp2_with fail
  refine (sane_any w).mono ?_
  rintro e W1 ⟨rfl, hb1⟩
  have HB1 := Lib.hid hb1
  have HP1 := Lib.hid (HP.out.below hb1)
  clear hb1
  go_wp2_with fail
  refine (loaded_any W1 A c ps HP1.out.rd HP1.out.by_ HP1.out.u8).mono ?_
  rintro e W2 ⟨hb2, hres⟩
  have HB2 := Lib.hid (bvia HB1.out hb2 (Nat.le_refl _))
  have HP2 := Lib.hid (HP1.out.below hb2)
  have HI := Lib.hid (IsPages_any W2 A c ps (HP1.out.below hb2).rd)
  clear hb2
  rcases hres with ⟨⟨hl20, hisp⟩, mb, rfl, hld⟩ | ⟨hnot, rfl⟩
  · rw [hisp] at HI
    have hc20 : ¬ (ps.length : Int) > 20 := by omega
    have HPO := Lib.hid (psOk_of hisp HP1.out.u8 (by omega))
    have HM := Lib.hid hld.m1.1
    clear hisp hld
    by_cases hbl : bs.length ≤ 2000
    · have hcb2 : ¬ (bs.length : Int) > 2000 := by omega
      go_wp2_with fail
      refine (HM.out.right at_ 2 bs.length ha (by omega) (by omega)).mono ?_
      rintro e W3 ⟨rfl, hb3⟩
      have HM3 := Lib.hid (HM.out.below hb3)
      have HB3 := Lib.hid (bvia HB2.out hb3 (Nat.le_refl _))
      have hs3 : w.heap.size ≤ W1.heap.size := HB1.out.size
      clear hb3
      go_wp2_with fail
      refine (HM3.out.Write0 at_ bs D cd ha hcb ((HBS.out.below HB3.out).rd) HBS.out.u8 fun h0 ad e => by have := HBS.out.rd.old (by omega) ad e; omega).mono ?_
      rintro e W4 ⟨rfl, m4, hb4⟩
      have HM4 := Lib.hid m4
      have HB4 := Lib.hid (HB3.out.trans (hb4.mono hs3))
      obtain ⟨wa, hwa⟩ : ∃ x, wrA (ldM ps) 2 at_ bs.length = x := ⟨_, rfl⟩
      rw [hwa]
      cases hwb : wrB (ldM ps) 2 at_ bs.length with
      | false =>
        have HWM : Hid (wrM (ldM ps) 2 at_ bs = ldM ps) := Lib.hid (by unfold wrM; rw [hwb]; rfl)
        clear m4 hb4 hwa hwb
        go_wp2_with fail
        refine (HM4.out.Save).mono ?_
        rintro e W5 ⟨⟨A5, c5, qs, rfl, rd5, new5, see5, by5, u5⟩, hb5⟩
        rw [HWM.out, save_load ps HPO.out] at see5
        have HB5 := Lib.hid (bvia HB4.out hb5 (Nat.le_refl _))
        have HSP := Lib.hid (SamePages_any W5 A5 A c5 c qs ps rd5 ((HP.out.below HB5.out).rd) by5.zero (HP.out.below HB5.out).by_ u5 HP.out.u8)
        rw [sameP_of see5] at HSP
        clear rd5 new5 see5 by5 u5 hb5
        go_wp2_with fail
        refine HSP.out.mono ?_
        rintro e W6 ⟨rfl, hb6⟩
        have HB6 := Lib.hid (bvia HB5.out hb6 (Nat.le_refl _))
        clear hb6
        go_wp2_with fail
        go_ret
        exact ⟨rfl, HB6.out⟩
      | true =>
        have HPK := Lib.hid (peek_poked ha HM.out.rights hwb)
        clear m4 hb4 hwa hwb
        go_wp2_with fail
        refine (HM4.out.Peek at_ bs.length ha).mono ?_
        rintro e W5 ⟨⟨A5, c5, rfl, rd5, hc5, new5⟩, hb5, u5⟩
        have HB5 := Lib.hid (bvia HB4.out hb5 (Nat.le_refl _))
        rw [HPK.out.1, HPK.out.2]
        rw [HPK.out.2] at rd5
        have R5 := Lib.hid rd5
        clear rd5 hc5 new5 u5 hb5
        obtain ⟨ra, hra⟩ : ∃ x, rdA (wrM (ldM ps) 2 at_ bs) 0 at_ bs.length = x := ⟨_, rfl⟩
        rw [hra]
        clear hra
        go_wp2_with fail
        refine (Equal_bytes W5 A5 D bs bs c5 cd R5.out ((HBS.out.below HB5.out).rd) HBS.out.u8 HBS.out.u8).mono ?_
        rintro e W6 ⟨rfl, rfl⟩
        rw [show decide (bs = bs) = true from decide_eq_true rfl]
        go_wp2_with fail
        go_ret
        exact ⟨rfl, HB5.out⟩
    · have hcb2 : (bs.length : Int) > 2000 := by omega
      go_wp2_with fail
      refine HI.out.mono ?_
      rintro e W3 ⟨rfl, hb3⟩
      have HB3 := Lib.hid (bvia HB2.out hb3 (Nat.le_refl _))
      clear hb3
      go_wp2_with fail
      go_ret
      exact ⟨rfl, HB3.out⟩
  · cases hisp : isP ps with
    | false =>
      rw [hisp] at HI
      clear hisp hnot
      go_wp2_with fail
      refine HI.out.mono ?_
      rintro e W3 ⟨rfl, hb3⟩
      have HB3 := Lib.hid (bvia HB2.out hb3 (Nat.le_refl _))
      clear hb3
      go_wp2_with fail
      go_ret
      exact ⟨rfl, HB3.out⟩
    | true =>
      have hc20 : (ps.length : Int) > 20 := by
        rcases Nat.lt_or_ge 20 ps.length with h | h
        · omega
        · exact absurd ⟨h, hisp⟩ hnot
      rw [hisp] at HI
      clear hisp hnot
      go_wp2_with fail
      refine HI.out.mono ?_
      rintro e W3 ⟨rfl, hb3⟩
      have HB3 := Lib.hid (bvia HB2.out hb3 (Nat.le_refl _))
      clear hb3
      go_wp2_with fail
      go_ret
      exact ⟨rfl, HB3.out⟩
end Go.Proofs.Ytidojcogojchpaa

/- mem's laws: few. -/
set_option linter.unusedVariables false
set_option linter.unusedSimpArgs false
namespace Go.Proofs.Ytidojcogojchpaa
open Go.RowKit Go.Shelf

def fwA (n : Int) (x : CV) : Int := wrap64 (n + x.bs.length)
def fwB (n : Int) (x : CV) : Int := if 0 < x.n ∧ x.n ≤ 65536 then wrap64 (fwA n x + x.n) else fwA n x
def fwP (p : Int) (x : CV) : Int := if x.kind = 0 ∧ 0 < x.n ∧ x.n ≤ 2000 then wrap64 (p + x.n) else p
def fwN (xs : List CV) : Int := xs.foldl fwB 0
def fwQ (xs : List CV) : Int := xs.foldl fwP 0
def fewB (xs : List CV) : Bool := decide (xs.length ≤ 60 ∧ fwN xs ≤ 200000 ∧ fwQ xs ≤ 3000)
theorem fwN_snoc (xs : List CV) (k : Nat) (hk : k < xs.length) : fwN (xs.take (k + 1)) = fwB (fwN (xs.take k)) (gx xs k) := by
  rw [List.take_succ_eq_append_getElem hk, fwN, List.foldl_append, gx_get xs k hk]; rfl
theorem fwQ_snoc (xs : List CV) (k : Nat) (hk : k < xs.length) : fwQ (xs.take (k + 1)) = fwP (fwQ (xs.take k)) (gx xs k) := by
  rw [List.take_succ_eq_append_getElem hk, fwQ, List.foldl_append, gx_get xs k hk]; rfl
set_option maxRecDepth 100000 in
set_option maxHeartbeats 4000000 in
theorem few_any (W : World) (A : Option Addr) (c : Nat) (xs : List CV) (h : CsIn W A c xs) :
    Calls Try.prog 32 #[.slice A xs.length c] W fun e w' => e = .returned (.bool (fewB xs)) ∧ Below W.heap.size W w' := by
  have hcp := h.cap
  have hle := h.le
  have H := Lib.hid h
  clear h
  go_enter Try.func32, Try.ntmps32
  go_wp2_with fail
  go_loopw [3, 4, 9] (fun n p i wr => ∃ k : Nat, k ≤ xs.length ∧ i = .int .i64 k ∧ n = .int .i64 (fwN (xs.take k)) ∧ p = .int .i64 (fwQ (xs.take k)) ∧ Hid (Below W.heap.size W wr)) (fun _ _ i _ => xs.length - (intOf i).toNat)
  case atStart => exact ⟨0, Nat.zero_le _, rfl, rfl, rfl, Lib.hid (Below.refl _ _)⟩
  case round =>
    obtain ⟨k, hk, rfl, rfl, rfl, hI⟩ := hrel
    by_cases hlt : k < xs.length
    · obtain ⟨ad, rfl, hx⟩ := (H.out.below hI.out).at k hlt
      obtain ⟨x0, x1, x2, x3, x4, x5⟩ := hx
      have hN := fwN_snoc xs k hlt
      have hQ := fwQ_snoc xs k hlt
      obtain ⟨n0, hn0⟩ : ∃ n0, fwN (xs.take k) = n0 := ⟨_, rfl⟩
      obtain ⟨p0, hp0⟩ : ∃ p0, fwQ (xs.take k) = p0 := ⟨_, rfl⟩
      rw [hn0] at hN ⊢
      rw [hp0] at hQ ⊢
      obtain ⟨X, hX⟩ : ∃ X, gx xs k = X := ⟨_, rfl⟩
      rw [hX] at x0 x1 x2 x3 x4 x5 hN hQ
      obtain ⟨kind, pg, n, rt, a, Ab, cb, bs⟩ := X
      obtain ⟨W5, hW5⟩ : ∃ W5, wr.alloc (.cells #[.int .i64 kind, .int .i64 pg, .int .i64 n, .int .i64 rt, .int .u32 a, .slice Ab bs.length cb] 54) = W5 := ⟨_, rfl⟩
      have h5 : W5.heap[wr.heap.size]? = some (.cells #[.int .i64 kind, .int .i64 pg, .int .i64 n, .int .i64 rt, .int .u32 a, .slice Ab bs.length cb] 54 (0, 0)) := by rw [← hW5]; exact heap_alloc_new wr _
      have hb5 : Below wr.heap.size wr W5 := by rw [← hW5]; exact balloc wr _
      have y0 : W5.cell? ⟨wr.heap.size, 0, none⟩ = some (.int .i64 kind) := by simp [World.cell?, h5]
      have y2 : W5.cell? ⟨wr.heap.size, 2, none⟩ = some (.int .i64 n) := by simp [World.cell?, h5]
      have y5 : W5.cell? ⟨wr.heap.size, 5, none⟩ = some (.slice Ab bs.length cb) := by simp [World.cell?, h5]
      have HB5 := Lib.hid (hI.out.trans (hb5.mono hI.out.size))
      have HN := Lib.hid hN
      have HQ := Lib.hid hQ
      clear h5 hb5 hN hQ hn0 hp0 hX
      go_wp2_with fail
      all_goals
        refine ⟨⟨k + 1, by omega, by go_num, ?_, ?_, HB5⟩, by simp [intOf]; omega⟩
        · rw [HN.out]
          simp only [fwB, fwA]
          first
            | (rw [if_pos (c := 0 < n ∧ n ≤ 65536) (by omega)])
            | (rw [if_neg (c := 0 < n ∧ n ≤ 65536) (by omega)])
        · rw [HQ.out]
          simp only [fwP]
          first
            | (rw [if_pos (c := kind = 0 ∧ 0 < n ∧ n ≤ 2000) (by omega)])
            | (rw [if_neg (c := kind = 0 ∧ 0 < n ∧ n ≤ 2000) (by omega)])
    · obtain rfl : k = xs.length := by omega
      rw [List.take_length]
      obtain ⟨n0, hn0⟩ : ∃ n0, fwN xs = n0 := ⟨_, rfl⟩
      obtain ⟨p0, hp0⟩ : ∃ p0, fwQ xs = p0 := ⟨_, rfl⟩
      rw [hn0, hp0]
      have HF : Hid (fewB xs = decide (xs.length ≤ 60 ∧ n0 ≤ 200000 ∧ p0 ≤ 3000)) := Lib.hid (by unfold fewB; rw [hn0, hp0])
      clear hn0 hp0
      go_wp2_with fail
      all_goals
        go_ret
        rw [HF.out]
        refine ⟨?_, hI.out⟩
        first
          | exact congrArg (fun x => Ending.returned (Value.bool x)) (show decide (p0 ≤ 3000) = decide (xs.length ≤ 60 ∧ n0 ≤ 200000 ∧ p0 ≤ 3000) from decide_eq_decide.2 (by omega))
          | exact congrArg (fun x => Ending.returned (Value.bool x)) (show false = decide (xs.length ≤ 60 ∧ n0 ≤ 200000 ∧ p0 ≤ 3000) from (decide_eq_false (by omega)).symm)
end Go.Proofs.Ytidojcogojchpaa

/- mem's laws: MemClones. -/
set_option linter.unusedVariables false
set_option linter.unusedSimpArgs false
namespace Go.Proofs.Ytidojcogojchpaa
open Go.RowKit Go.Shelf

theorem ldM_cg (ps : List PV) : (ldM ps).cg = [] := by
  unfold ldM
  suffices h : ∀ (L : List PV) (A : PM), (L.foldl (fun A p => A.put p.n ⟨p.r, p.bs⟩) A).cg = A.cg from h ps PM.new
  intro L
  induction L with
  | nil => intro A; rfl
  | cons p L ih => intro A; rw [List.foldl_cons, ih]; rfl
/-- What the loop carries. -/
def ClI (w : World) (B b : Nat) (A : PM) (v : Value) (V : World) : Prop := ∃ c C, v = .pointer (some ⟨c, 0, none⟩) ∧ M2 B V b A c C ∧ Below w.heap.size w V
set_option maxRecDepth 1000000 in
set_option maxHeartbeats 8000000 in
theorem clones_any (A : Option Addr) (c : Nat) (ps : List PV) (D : Option Addr) (cd : Nat) (xs : List CV) (w : World) (hp : PsIn w A c ps) (hx : CsIn w D cd xs) :
    Calls Try.prog 7 #[.slice A ps.length c, .slice D xs.length cd] w fun e w' => e = .returned (.bool true) ∧ Below w.heap.size w w' := by
  have HP := Lib.hid hp
  have HX := Lib.hid hx
  have hlen := hp.rd.le
  have hcx := hx.cap
  have hlx := hx.le
  clear hp hx
  go_enter Try.func7, Try.ntmps7
  go_wp2_with fail
  refine (sane_any w).mono ?_
  rintro e W1 ⟨rfl, hb1⟩
  have HB1 := Lib.hid hb1
  have HP1 := Lib.hid (HP.out.below hb1)
  clear hb1
  go_wp2_with fail
  refine (loaded_any W1 A c ps HP1.out.rd HP1.out.by_ HP1.out.u8).mono ?_
  rintro e W2 ⟨hb2, hres⟩
  have HB2 := Lib.hid (bvia HB1.out hb2 (Nat.le_refl _))
  clear hb2
  rcases hres with ⟨⟨hl20, hisp⟩, mb, rfl, hld⟩ | ⟨hnot, rfl⟩
  · have hc20 : ¬ (ps.length : Int) > 20 := by omega
    have HPO := Lib.hid (psOk_of hisp HP1.out.u8 (by omega))
    have HM := Lib.hid hld.m1.1
    have HISP := Lib.hid hisp
    clear hisp hld
    have HFW := Lib.hid (few_any W2 D cd xs (HX.out.below HB2.out))
    cases hfw : fewB xs with
    | false =>
      rw [hfw] at HFW
      go_wp2_with fail
      refine HFW.out.mono ?_
      rintro e W3 ⟨rfl, hb3⟩
      have HB3 := Lib.hid (bvia HB2.out hb3 (Nat.le_refl _))
      clear hb3
      have HI := Lib.hid (IsPages_any W3 A c ps (HP.out.below HB3.out).rd)
      rw [HISP.out] at HI
      go_wp2_with fail
      refine HI.out.mono ?_
      rintro e W4 ⟨rfl, hb4⟩
      have HB4 := Lib.hid (bvia HB3.out hb4 (Nat.le_refl _))
      clear hb4
      have HFW4 := Lib.hid (few_any W4 D cd xs (HX.out.below HB4.out))
      rw [hfw] at HFW4
      clear hfw HFW
      go_wp2_with fail
      refine HFW4.out.mono ?_
      rintro e W5 ⟨rfl, hb5⟩
      have HB5 := Lib.hid (bvia HB4.out hb5 (Nat.le_refl _))
      clear hb5
      go_wp2_with fail
      go_ret
      exact ⟨rfl, HB5.out⟩
    | true =>
      rw [hfw] at HFW
      clear hfw
      go_wp2_with fail
      refine HFW.out.mono ?_
      rintro e W3 ⟨rfl, hb3⟩
      have HM3 := Lib.hid (HM.out.below hb3)
      have HB3 := Lib.hid (bvia HB2.out hb3 (Nat.le_refl _))
      have hs3 : w.heap.size ≤ W1.heap.size := HB1.out.size
      clear hb3 HFW
      go_wp2_with fail
      refine HM3.out.Clone.mono ?_
      rintro e W4 ⟨k0, rfl, m4, hb4⟩
      have HI4 : Hid (ClI w W1.heap.size mb (ldM ps) (.pointer (some ⟨k0, 0, none⟩)) W4) := Lib.hid ⟨k0, _, rfl, m4, HB3.out.trans (hb4.mono hs3)⟩
      clear m4 hb4
      go_wp2_with fail
      go_loopw [7, 41] (fun v i wr => ∃ k : Nat, k ≤ xs.length ∧ i = .int .i64 k ∧ Hid (ClI w W1.heap.size mb (ldM ps) v wr)) (fun _ i _ => xs.length - (intOf i).toNat)
      case atStart => exact ⟨0, Nat.zero_le _, rfl, HI4⟩
      case round =>
        obtain ⟨k, hk, rfl, hI⟩ := hrel
        obtain ⟨kc, C, rfl, m5, hb5⟩ := hI.out
        by_cases hlt : k < xs.length
        · have hXk := HX.out.ok _ (gx_mem xs k hlt)
          obtain ⟨ad, rfl, x0, x1, x2, x3, x4, x5⟩ := (HX.out.below hb5).at k hlt
          obtain ⟨X, hX⟩ : ∃ X, gx xs k = X := ⟨_, rfl⟩
          rw [hX] at x0 x1 x2 x3 x4 x5 hXk
          obtain ⟨kind, pg, n, rt, a, Ab, cb, bs⟩ := X
          obtain ⟨W5, hW5⟩ : ∃ W5, wr.alloc (.cells #[.int .i64 kind, .int .i64 pg, .int .i64 n, .int .i64 rt, .int .u32 a, .slice Ab bs.length cb] 54) = W5 := ⟨_, rfl⟩
          have h5 : W5.heap[wr.heap.size]? = some (.cells #[.int .i64 kind, .int .i64 pg, .int .i64 n, .int .i64 rt, .int .u32 a, .slice Ab bs.length cb] 54 (0, 0)) := by rw [← hW5]; exact heap_alloc_new wr _
          have hbw : Below wr.heap.size wr W5 := by rw [← hW5]; exact balloc wr _
          have y0 : W5.cell? ⟨wr.heap.size, 0, none⟩ = some (.int .i64 kind) := by simp [World.cell?, h5]
          have y1 : W5.cell? ⟨wr.heap.size, 1, none⟩ = some (.int .i64 pg) := by simp [World.cell?, h5]
          have y2 : W5.cell? ⟨wr.heap.size, 2, none⟩ = some (.int .i64 n) := by simp [World.cell?, h5]
          have y3 : W5.cell? ⟨wr.heap.size, 3, none⟩ = some (.int .i64 rt) := by simp [World.cell?, h5]
          have y4 : W5.cell? ⟨wr.heap.size, 4, none⟩ = some (.int .u32 a) := by simp [World.cell?, h5]
          have y5 : W5.cell? ⟨wr.heap.size, 5, none⟩ = some (.slice Ab bs.length cb) := by simp [World.cell?, h5]
          have HM5 := Lib.hid (m5.below hbw)
          have HB5 := Lib.hid (bvia hb5 hbw (Nat.le_refl _))
          have HOK := Lib.hid hXk
          clear h5 hbw hX hXk m5 hb5 hI
          by_cases k0 : kind = 0
          · subst k0
            go_wp2_with fail
            refine (HM5.out.Map pg n rt).mono ?_
            rintro e W6 ⟨rfl, m6, hb6⟩
            have HI6 : Hid (ClI w W1.heap.size mb (ldM ps) (.pointer (some ⟨kc, 0, none⟩)) W6) := Lib.hid ⟨kc, _, rfl, m6, HB5.out.trans (hb6.mono hs3)⟩
            obtain ⟨z1, hz1⟩ : ∃ z, mapR C pg n rt = z := ⟨_, rfl⟩
            rw [hz1]
            clear hz1
            clear m6 hb6
            go_wp2_with fail
            go_roundw
            case rel => exact ⟨k + 1, by omega, by go_num, HI6⟩
            case measure => simp [intOf]; omega
          by_cases k1 : kind = 1
          · subst k1
            go_wp2_with fail
            refine (HM5.out.Unmap pg n).mono ?_
            rintro e W6 ⟨rfl, m6, hb6⟩
            have HI6 : Hid (ClI w W1.heap.size mb (ldM ps) (.pointer (some ⟨kc, 0, none⟩)) W6) := Lib.hid ⟨kc, _, rfl, m6, HB5.out.trans (hb6.mono hs3)⟩
            obtain ⟨z1, hz1⟩ : ∃ z, unmR C pg n = z := ⟨_, rfl⟩
            rw [hz1]
            clear hz1
            clear m6 hb6
            go_wp2_with fail
            go_roundw
            case rel => exact ⟨k + 1, by omega, by go_num, HI6⟩
            case measure => simp [intOf]; omega
          by_cases k2 : kind = 2
          · subst k2
            go_wp2_with fail
            refine (HM5.out.Protect pg n rt).mono ?_
            rintro e W6 ⟨rfl, m6, hb6⟩
            have HI6 : Hid (ClI w W1.heap.size mb (ldM ps) (.pointer (some ⟨kc, 0, none⟩)) W6) := Lib.hid ⟨kc, _, rfl, m6, HB5.out.trans (hb6.mono hs3)⟩
            obtain ⟨z1, hz1⟩ : ∃ z, proR C pg n rt = z := ⟨_, rfl⟩
            rw [hz1]
            clear hz1
            clear m6 hb6
            go_wp2_with fail
            go_roundw
            case rel => exact ⟨k + 1, by omega, by go_num, HI6⟩
            case measure => simp [intOf]; omega
          by_cases k7 : kind = 7
          · subst k7
            go_wp2_with fail
            refine (HM5.out.Write0 a bs Ab cb HOK.out.at_ HOK.out.bs.cap ((HOK.out.bs.below HB5.out).rd) HOK.out.bs.u8 fun h0 ad e => by have := HOK.out.bs.rd.old (by rw [Nat.mul_one]; exact h0) ad e; omega).mono ?_
            rintro e W6 ⟨rfl, m6, hb6⟩
            have HI6 : Hid (ClI w W1.heap.size mb (ldM ps) (.pointer (some ⟨kc, 0, none⟩)) W6) := Lib.hid ⟨kc, _, rfl, m6, HB5.out.trans (hb6.mono hs3)⟩
            obtain ⟨z1, hz1⟩ : ∃ z, wrA C 2 a bs.length = z := ⟨_, rfl⟩
            obtain ⟨z2, hz2⟩ : ∃ z, wrB C 2 a bs.length = z := ⟨_, rfl⟩
            rw [hz1, hz2]
            clear hz1 hz2
            clear m6 hb6
            go_wp2_with fail
            go_roundw
            case rel => exact ⟨k + 1, by omega, by go_num, HI6⟩
            case measure => simp [intOf]; omega
          by_cases k8 : kind = 8
          · subst k8
            go_wp2_with fail
            refine (HM5.out.Poke0 a bs Ab cb HOK.out.at_ HOK.out.bs.cap ((HOK.out.bs.below HB5.out).rd) HOK.out.bs.u8 fun h0 ad e => by have := HOK.out.bs.rd.old (by rw [Nat.mul_one]; exact h0) ad e; omega).mono ?_
            rintro e W6 ⟨rfl, m6, hb6⟩
            have HI6 : Hid (ClI w W1.heap.size mb (ldM ps) (.pointer (some ⟨kc, 0, none⟩)) W6) := Lib.hid ⟨kc, _, rfl, m6, HB5.out.trans (hb6.mono hs3)⟩
            obtain ⟨z1, hz1⟩ : ∃ z, wrA C 0 a bs.length = z := ⟨_, rfl⟩
            obtain ⟨z2, hz2⟩ : ∃ z, wrB C 0 a bs.length = z := ⟨_, rfl⟩
            rw [hz1, hz2]
            clear hz1 hz2
            clear m6 hb6
            go_wp2_with fail
            go_roundw
            case rel => exact ⟨k + 1, by omega, by go_num, HI6⟩
            case measure => simp [intOf]; omega
          by_cases k11 : kind = 11
          · subst k11
            go_wp2_with fail
            refine HM5.out.Clone.mono ?_
            rintro e W6 ⟨kd, rfl, m6, hb6⟩
            have HI6 : Hid (ClI w W1.heap.size mb (ldM ps) (.pointer (some ⟨kd, 0, none⟩)) W6) := Lib.hid ⟨kd, _, rfl, m6, HB5.out.trans (hb6.mono hs3)⟩
            clear m6 hb6
            go_wp2_with fail
            go_roundw
            case rel => exact ⟨k + 1, by omega, by go_num, HI6⟩
            case measure => simp [intOf]; omega
          have HI6 : Hid (ClI w W1.heap.size mb (ldM ps) (.pointer (some ⟨kc, 0, none⟩)) W5) := Lib.hid ⟨kc, _, rfl, HM5.out, HB5.out⟩
          have d0 : (kind == 0) = false := by simpa using k0
          have d1 : (kind == 1) = false := by simpa using k1
          have d2 : (kind == 2) = false := by simpa using k2
          have d7 : (kind == 7) = false := by simpa using k7
          have d8 : (kind == 8) = false := by simpa using k8
          have d11 : (kind == 11) = false := by simpa using k11
          go_wp2_with fail
          go_roundw
          case rel => exact ⟨k + 1, by omega, by go_num, HI6⟩
          case measure => simp [intOf]; omega
        · obtain rfl : k = xs.length := by omega
          have HM5 := Lib.hid m5
          have HB5 := Lib.hid hb5
          clear m5 hb5 hI hlt hk
          go_wp2_with fail
          refine HM5.out.fst.Save.mono ?_
          rintro e W6 ⟨⟨A6, c6, qs, rfl, rd6, new6, see6, by6, u6⟩, hb6⟩
          rw [save_load ps HPO.out] at see6
          have HM6 := Lib.hid (HM5.out.fst.below hb6)
          have HB6 := Lib.hid (bvia HB5.out hb6 (Nat.le_refl _))
          have HSP := Lib.hid (SamePages_any W6 A6 A c6 c qs ps rd6 ((HP.out.below HB6.out).rd) by6.zero (HP.out.below HB6.out).by_ u6 HP.out.u8)
          rw [sameP_of see6] at HSP
          clear rd6 new6 see6 by6 u6 hb6
          go_wp2_with fail
          refine HSP.out.mono ?_
          rintro e W7 ⟨rfl, hb7⟩
          have HM7 := Lib.hid (HM6.out.below hb7)
          have HB7 := Lib.hid (bvia HB6.out hb7 (Nat.le_refl _))
          clear hb7
          go_wp2_with fail
          refine HM7.out.Changed.mono ?_
          rintro e W8 ⟨⟨A8, c8, rfl, rd8, hc8, new8⟩, hb8⟩
          have HB8 := Lib.hid (bvia HB7.out hb8 (Nat.le_refl _))
          rw [ldM_cg]
          clear rd8 hc8 new8 hb8
          go_wp2_with fail
          go_ret
          exact ⟨rfl, HB8.out⟩
  · have HI := Lib.hid (IsPages_any W2 A c ps (HP.out.below HB2.out).rd)
    cases hisp : isP ps with
    | false =>
      rw [hisp] at HI
      clear hisp hnot
      go_wp2_with fail
      refine HI.out.mono ?_
      rintro e W3 ⟨rfl, hb3⟩
      have HB3 := Lib.hid (bvia HB2.out hb3 (Nat.le_refl _))
      clear hb3
      go_wp2_with fail
      go_ret
      exact ⟨rfl, HB3.out⟩
    | true =>
      have hc20 : (ps.length : Int) > 20 := by
        rcases Nat.lt_or_ge 20 ps.length with h | h
        · omega
        · exact absurd ⟨h, hisp⟩ hnot
      rw [hisp] at HI
      clear hisp hnot
      go_wp2_with fail
      refine HI.out.mono ?_
      rintro e W3 ⟨rfl, hb3⟩
      have HB3 := Lib.hid (bvia HB2.out hb3 (Nat.le_refl _))
      clear hb3
      go_wp2_with fail
      go_ret
      exact ⟨rfl, HB3.out⟩
end Go.Proofs.Ytidojcogojchpaa

/- mem's laws: MemRights, in plain words. -/
set_option linter.unusedVariables false
set_option linter.unusedSimpArgs false
namespace Go.Proofs.Ytidojcogojchpaa
open Go.RowKit Go.Shelf

theorem belowBox {W W' : World} {b : Nat} {o : Obj} (hb : Below W.heap.size W W') (h : W.heap[b]? = some o) : W'.heap[b]? = some o := (hb.block b (Array.getElem?_eq_some_iff.1 h).1).trans h
theorem inL_one {ks : List Int} (h : Up ks) (p : Int) : inL ks p 1 = if p ∈ ks then [p] else [] := by
  unfold inL
  have e : ∀ k : Int, decide (p ≤ k ∧ k < p + 1) = (k == p) := fun k => by
    by_cases hk : k = p
    · subst hk; simp; omega
    · rw [decide_eq_false (by omega)]; simp [hk]
  simp only [e]
  by_cases hp : p ∈ ks
  · rw [if_pos hp]
    refine up_ext (h.sublist List.filter_sublist) (List.pairwise_singleton _ _) fun x => ?_
    simp only [List.mem_filter, List.mem_singleton, beq_iff_eq]
    exact ⟨fun hx => hx.2, fun hx => by subst hx; exact ⟨hp, rfl⟩⟩
  · rw [if_neg hp]
    refine List.filter_eq_nil_iff.2 fun x hx hc => hp ?_
    rw [← (beq_iff_eq.1 hc)]; exact hx
theorem or_fin : ∀ a b : Fin 8, 0 ≤ bits .or .i64 (a.val : Int) (b.val : Int) ∧ bits .or .i64 (a.val : Int) (b.val : Int) ≤ 7 ∧ ∀ c : Fin 5, bits .and .i64 (a.val : Int) (c.val : Int) = c.val → bits .and .i64 (bits .or .i64 (a.val : Int) (b.val : Int)) (c.val : Int) = c.val := of_decide_eq_true (by kernel_rfl)
theorem or_rights {a b : Int} (ha : 0 ≤ a ∧ a ≤ 7) (hb : 0 ≤ b ∧ b ≤ 7) : (0 ≤ bits .or .i64 a b ∧ bits .or .i64 a b ≤ 7) ∧ ∀ c : Int, 0 ≤ c → c ≤ 4 → bits .and .i64 a c = c → bits .and .i64 (bits .or .i64 a b) c = c := by
  have h := or_fin ⟨a.toNat, by omega⟩ ⟨b.toNat, by omega⟩
  simp only [Int.toNat_of_nonneg ha.1, Int.toNat_of_nonneg hb.1] at h
  refine ⟨⟨h.1, h.2.1⟩, fun c c0 c1 => ?_⟩
  have := h.2.2 ⟨c.toNat, by omega⟩
  simpa only [Int.toNat_of_nonneg c0] using this
/-- The same bytes; rights at least. -/
structure LeR (A K : PM) : Prop where
  ks : K.ks = A.ks
  bs : ∀ n ∈ A.ks, (K.pg n).bs = (A.pg n).bs
  rt : ∀ n ∈ A.ks, ∀ c : Int, 0 ≤ c → c ≤ 4 → bits .and .i64 (A.pg n).r c = c → bits .and .i64 (K.pg n).r c = c
section
variable {A K : PM}
theorem LeR.ok (h : LeR A K) {need a : Int} (hn : 0 ≤ need ∧ need ≤ 4) (ho : okA A need a) : okA K need a := ⟨by rw [h.ks]; exact ho.1, h.rt _ ho.1 need hn.1 hn.2 ho.2⟩
theorem LeR.all (h : LeR A K) {need at_ n : Int} (hn : 0 ≤ need ∧ need ≤ 4) (ho : allOk A need at_ n) : allOk K need at_ n := fun i i0 i1 => h.ok hn (ho i i0 i1)
theorem rd_true {need at_ n : Int} (h : rdB A need at_ n = true) : allOk A need at_ n ∧ 0 ≤ n ∧ n ≤ 65536 := by
  unfold rdB at h
  split at h
  · cases h
  · exact ⟨firstBad_all (by simpa using h), by omega, by omega⟩
theorem LeR.bytes (h : LeR A K) {need at_ : Int} {n : Nat} (ho : allOk A need at_ n) : bytesN K at_ n = bytesN A at_ n := by
  unfold bytesN byteAt
  refine List.map_congr_left fun i hi => ?_
  have hi' : i < n := by simpa using hi
  rw [h.bs _ (ho i (by omega) (by omega)).1]
theorem LeR.rd (h : LeR A K) {need at_ n : Int} (hn : 0 ≤ need ∧ need ≤ 4) (hr : rdB A need at_ n = true) : rdB K need at_ n = true ∧ rdL K need at_ n = rdL A need at_ n := by
  obtain ⟨ho, h0, h1⟩ := rd_true hr
  obtain ⟨m, rfl⟩ : ∃ m : Nat, n = m := ⟨n.toNat, by omega⟩
  obtain ⟨a1, a2, a3⟩ := rd_ok h0 h1 ho
  obtain ⟨b1, b2, b3⟩ := rd_ok h0 h1 (h.all hn ho)
  refine ⟨b2, b3.trans (Eq.trans ?_ a3.symm)⟩
  rw [Int.toNat_natCast]
  exact h.bytes ho
theorem LeR.wr (h : LeR A K) {need at_ : Int} {n : Nat} (hn : 0 ≤ need ∧ need ≤ 4) (hr : wrB A need at_ n = true) : wrB K need at_ n = true := by
  obtain ⟨ho, h1⟩ := wr_true hr
  exact (wr_ok h1 (h.all hn ho)).2
theorem diff_nil (hk : K.ks = A.ks) (hb : ∀ n ∈ A.ks, (K.pg n).bs = (A.pg n).bs) : diffL A K = [] := by
  have hu : ∀ n ∈ uni A.ks K.ks, n ∈ A.ks := fun n hn => by
    rw [uni_mem, hk] at hn
    rcases hn with h | h <;> exact h
  have hp : posA A K (uni A.ks K.ks) = [] := by
    unfold posA
    refine List.flatMap_eq_nil_iff.2 fun n hn => ?_
    have hm := hu n hn
    unfold posP
    rw [List.filter_eq_nil_iff.2 fun j _ => ?_]
    · rfl
    · unfold dif
      rw [decide_eq_true hm, hk, decide_eq_true hm, hb n hm, decide_eq_true rfl]
      simp
  unfold diffL
  rw [hp]; rfl
theorem LeR.diff (h : LeR A K) : diffL A K = [] := diff_nil h.ks h.bs
theorem LeR.wdiff (h : LeR A K) {need at_ : Int} {bs : List Int} (hn : 0 ≤ need ∧ need ≤ 4) (hr : wrB A need at_ bs.length = true) : diffL (wrM A need at_ bs) (wrM K need at_ bs) = [] := by
  have e1 : wrM A need at_ bs = A.poke at_ bs bs.length := if_pos hr
  have e2 : wrM K need at_ bs = K.poke at_ bs bs.length := if_pos (h.wr hn hr)
  rw [e1, e2]
  refine diff_nil h.ks fun n hm => ?_
  have hm' : n ∈ A.ks := hm
  show pokeB K at_ bs bs.length n = pokeB A at_ bs bs.length n
  unfold pokeB
  rw [h.bs n hm']
/-- What Protect of one page with more rights does. -/
theorem pro_more (hu : Up A.ks) (hrng : ∀ n ∈ A.ks, 0 ≤ n ∧ n < 16777216) (hr : ∀ n ∈ A.ks, 0 ≤ (A.pg n).r ∧ (A.pg n).r ≤ 7) {p more : Int} (hm : 0 ≤ more ∧ more ≤ 7) (hp : p ∈ A.ks) :
    proR A p 1 (bits .or .i64 (A.pg p).r more) = 0 ∧ LeR A (proA A p 1 (bits .or .i64 (A.pg p).r more)) := by
  obtain ⟨⟨o0, o1⟩, oc⟩ := or_rights (hr p hp) hm
  obtain ⟨x, hx⟩ : ∃ x, bits .or .i64 (A.pg p).r more = x := ⟨_, rfl⟩
  rw [hx] at o0 o1 oc ⊢
  have hw : withinB p 1 = true := decide_eq_true (by have := hrng p hp; omega)
  have h0 : proR A p 1 x = 0 := by
    unfold proR
    rw [hw, if_neg (by simp; omega), inL_one hu, if_pos hp, if_neg (by simp)]
  refine ⟨h0, ?_⟩
  have e : proA A p 1 x = A.prot1 x p := by
    unfold proA
    rw [if_pos h0, inL_one hu, if_pos hp]; rfl
  rw [e]
  refine ⟨rfl, fun n hn => ?_, fun n hn c c0 c1 hc => ?_⟩
  · show (updPg A.pg p ⟨x, (A.pg p).bs⟩ n).bs = _
    by_cases hnp : n = p
    · subst hnp; rw [updPg_same]
    · rw [updPg_ne hnp]
  · show bits .and .i64 (updPg A.pg p ⟨x, (A.pg p).bs⟩ n).r c = c
    by_cases hnp : n = p
    · subst hnp; rw [updPg_same]; exact oc c c0 c1 hc
    · rw [updPg_ne hnp]; exact hc
theorem pro_none (hu : Up A.ks) {p x : Int} (hp : p ∉ A.ks) : proR A p 1 x = 1 ∨ proR A p 1 x = 5 := by
  unfold proR
  split
  · exact .inl rfl
  · rw [inL_one hu, if_neg hp, if_pos (by simp)]; exact .inr rfl
end
theorem M1.Rights {B : Nat} {W : World} {b : Nat} {A : PM} (h : M1 B W b A) (n : Int) :
    Calls Try.prog 28 #[.pointer (some ⟨b, 0, none⟩), .int .i64 n] W fun e w' => e = .returned (.tuple #[.int .i64 (if n ∈ A.ks then (A.pg n).r else 0), .bool (decide (n ∈ A.ks))]) ∧ W = w' := by
  obtain ⟨S, h1, _⟩ := h.ex
  exact Rights_any W b S A n h1.mem
theorem M1.up {B : Nat} {W : World} {b : Nat} {A : PM} (h : M1 B W b A) : Up A.ks := by
  obtain ⟨S, h1, _⟩ := h.ex
  exact h1.mem.up
theorem M1.rng {B : Nat} {W : World} {b : Nat} {A : PM} (h : M1 B W b A) : ∀ n ∈ A.ks, 0 ≤ n ∧ n < 16777216 := by
  obtain ⟨S, h1, _⟩ := h.ex
  exact h1.mem.rng
theorem M1.len {B : Nat} {W : World} {b : Nat} {A : PM} (h : M1 B W b A) : A.ks.length ≤ 2000 := by
  obtain ⟨S, h1, _⟩ := h.ex
  exact h1.mem.le
theorem M2.upd_low {B : Nat} {W W' : World} {b c x : Nat} {A C : PM} (h : M2 B W b A c C) (hu : Upd (fun k => k = x) W W') (hx : x < B) : M2 B W' b A c C := by
  obtain ⟨S, T, h1, h2, h3, h4, h5, h6⟩ := h.ex
  exact ⟨S, T, ⟨h1.mem.upd hu fun k hk e => by have := h3 k hk; omega, h1.bp⟩, ⟨h2.mem.upd hu fun k hk e => by have := h4 k hk; omega, h2.bp⟩, h3, h4, h5, h6⟩
end Go.Proofs.Ytidojcogojchpaa

/- mem: Same. -/
set_option linter.unusedVariables false
set_option linter.unusedSimpArgs false
namespace Go.Proofs.Ytidojcogojchpaa
open Go.RowKit Go.Shelf

def pgEq (p q : Pg) : Bool := decide (p.r = q.r ∧ p.bs = q.bs)
def toU8 (xs : List Int) : List UInt8 := xs.map fun x => UInt8.ofNat x.toNat
theorem nums_cells {xs : List Int} (h : ∀ x ∈ xs, 0 ≤ x ∧ x < 256) : nums .u8 xs = (toU8 xs).map Extern.Stop.cell := by
  unfold nums toU8
  rw [List.map_map]
  refine List.map_congr_left fun x hx => ?_
  have := h x hx
  show Value.int .u8 x = Value.int .u8 _
  congr 1
  simp only [UInt8.toNat_ofNat']
  rw [Nat.mod_eq_of_lt (by omega)]
  show x = ((x.toNat : Nat) : Int)
  omega
theorem toU8_inj {xs ys : List Int} (hx : ∀ x ∈ xs, 0 ≤ x ∧ x < 256) (hy : ∀ x ∈ ys, 0 ≤ x ∧ x < 256) (h : toU8 xs = toU8 ys) : xs = ys := by
  have h1 := nums_cells hx
  have h2 := nums_cells hy
  rw [h, ← h2] at h1
  have := congrArg (List.map fun v => match v with | Value.int _ x => x | _ => 0) h1
  simpa [nums, List.map_map, Function.comp_def] using this
theorem tail_bs (r : Pg) (hr : r.bs.length = 256) : List.take 256 (pgCells r).tail = nums .u8 r.bs := by
  have e : (pgCells r).tail = nums .u8 r.bs := rfl
  rw [e]
  exact List.take_of_length_le (by simp [nums, hr])
theorem arr_size : (Try.prog.info? 96).map (·.size) = some 256 := by kernel_rfl
theorem part_arr (r : Pg) (hr : r.bs.length = 256) (V : World) : (part 96 (pgCells r).toArray 1).run Try.prog V = .ok (.agg (nums .u8 r.bs).toArray) V := by
  have hi := arr_size
  have hx2 := tail_bs r hr
  cases hq : Try.prog.info? 96 with
  | none => rw [hq] at hi; cases hi
  | some i =>
    rw [hq] at hi
    have hs : i.size = 256 := by simpa using hi
    simp [part, isAgg, run_underlying Try.underlying96, sizeOf, typeInfo, hq, hs, hx2]
theorem u8_size (w : World) : (sizeOf 5).run Try.prog w = .ok 1 w := by
  have hi : (Try.prog.info? 5).map (·.size) = some 1 := by kernel_rfl
  cases hq : Try.prog.info? 5 with
  | none => rw [hq] at hi; cases hi
  | some i =>
    rw [hq] at hi
    have hs : i.size = 1 := by simpa using hi
    simp [sizeOf, typeInfo, hq, hs]
theorem eq_arr (p q : Pg) (hp : PgOk p) (hq : PgOk q) (d : Nat) (V : World) : (Op.equalIn (d + 2) 96 (.agg (nums .u8 p.bs).toArray) (.agg (nums .u8 q.bs).toArray)).run Try.prog V = .ok (decide (p.bs = q.bs)) V := by
  have hpl := hp.len
  have hql := hq.len
  rw [nums_cells hp.u8, nums_cells hq.u8, run_equalIn_bytes (w := V) d 96 5 256 Try.underlying96 Try.underlying5 u8_size (toU8 p.bs) (toU8 q.bs) (by simp [toU8, hpl]) (by simp [toU8, hql])]
  congr 1
  rw [Bool.eq_iff_iff]
  simp only [beq_iff_eq, decide_eq_true_eq]
  exact ⟨toU8_inj hp.u8 hq.u8, fun e => by rw [e]⟩
theorem pg_fields : (Try.prog.fieldsOf 98).toList.map (fun f => (f.name, f.type, f.offset)) = [("rights", 3, 0), ("b", 96, 1)] := by kernel_rfl
theorem pg_part0 (r : Pg) (V : World) : (part 3 (pgCells r).toArray 0).run Try.prog V = .ok (.int .i64 r.r) V := by
  simp [part, isAgg, run_underlying Try.underlying3, pgCells]
theorem pg_struct : Try.prog.underlying 98 = some (.struct (Try.prog.fieldsOf 98)) := by kernel_rfl
theorem pg_stood : Try.prog.stoodInHeld 98 = false := by kernel_rfl
theorem eq_page (p q : Pg) (hp : PgOk p) (hq : PgOk q) (d : Nat) (V : World) : (Op.equalIn (d + 3) 98 (.agg (pgCells p).toArray) (.agg (pgCells q).toArray)).run Try.prog V = .ok (pgEq p q) V := by
  have e3 := eq_arr p q hp hq d V
  have e4 : (Op.equalIn (d + 2) 3 (.int .i64 p.r) (.int .i64 q.r)).run Try.prog V = .ok (p.r == q.r) V := run_equalIn_int V (d + 1) 3 .i64 .i64 p.r q.r Try.underlying3
  rw [run_equalIn_struct (w := V) (d + 2) 98 _ _ pg_struct pg_stood]
  have hf := pg_fields
  generalize (Try.prog.fieldsOf 98).toList = fs at hf
  rcases fs with _ | ⟨f1, _ | ⟨f2, _ | ⟨f3, l⟩⟩⟩
  · cases hf
  · simp at hf
  · simp only [List.map_cons, List.map_nil, List.cons.injEq, Prod.mk.injEq, and_true] at hf
    obtain ⟨⟨n1, t1, o1⟩, ⟨n2, t2, o2⟩⟩ := hf
    simp only [Op.eqFields, n1, t1, o1, n2, t2, o2]
    have k1 : ("rights" : String) ≠ "_" := by decide
    have k2 : ("b" : String) ≠ "_" := by decide
    rw [if_pos k1, if_pos k2]
    simp only [Sem.run_bind, pg_part0, e4, Result.andThen_ok]
    unfold pgEq
    cases hb : (p.r == q.r) with
    | false =>
      have h1 : ¬ p.r = q.r := by simpa using hb
      simp [h1]
    | true =>
      have h1 : p.r = q.r := by simpa using hb
      simp only [Bool.not_true, Bool.false_eq_true, if_false, Sem.run_bind, part_arr p hp.len, part_arr q hq.len, e3, Result.andThen_ok]
      by_cases h2 : p.bs = q.bs
      · simp [h1, h2]
      · simp [h1, h2]
  · simp at hf
theorem neq_page (p q : Pg) (hp : PgOk p) (hq : PgOk q) (V : World) : (binOp .neq 98 (.agg (pgCells p).toArray) (.agg (pgCells q).toArray)).run Try.prog V = .ok (.bool (!pgEq p q)) V := by
  have h := eq_page p q hp hq
  have h' : (Op.equalIn 10000 98 (.agg (pgCells p).toArray) (.agg (pgCells q).toArray)).run Try.prog V = .ok (pgEq p q) V := h 9997 V
  rw [run_neq_struct, h']
  rfl
end Go.Proofs.Ytidojcogojchpaa

/- mem: Same. -/
set_option linter.unusedVariables false
set_option linter.unusedSimpArgs false
namespace Go.Proofs.Ytidojcogojchpaa
open Go.RowKit Go.Shelf

section
variable {P : Program} (w : World)
theorem run_neq_ptr_same {tp te : TypeId} {j : TypeInfo} (a : Addr) (hp : P.underlying tp = some (.pointer te)) (hte : P.info? te = some j) :
    (binOp .neq tp (.pointer (some a)) (.pointer (some a))).run P w = .ok (.bool false) w := by
  have h : ∀ d : Nat, (Op.equalIn (d + 1) tp (.pointer (some a)) (.pointer (some a))).run P w = .ok true w := fun d => by
    simp [Op.equalIn, run_underlying hp, sizeOf, typeInfo, hte, run_sameAddr_same]
  simp only [binOp]
  simp [Op.equal, Op.maxDepth, h 9999]
theorem run_neq_ptr_other {tp te : TypeId} {j : TypeInfo} {a b : Addr} {ca cb : Array Value} {ta tb : TypeId} (hp : P.underlying tp = some (.pointer te)) (hte : P.info? te = some j) (hsz : j.size ≠ 0)
    (hne : a ≠ b) (ha : w.heap[a.block]? = some (.cells ca ta (0, 0))) (hb : w.heap[b.block]? = some (.cells cb tb (0, 0))) :
    (binOp .neq tp (.pointer (some a)) (.pointer (some b))).run P w = .ok (.bool true) w := by
  have h : ∀ d : Nat, (Op.equalIn (d + 1) tp (.pointer (some a)) (.pointer (some b))).run P w = .ok false w := fun d => by
    simp [Op.equalIn, run_underlying hp, sizeOf, typeInfo, hte, hsz, run_sameAddr_other w hne ha hb]
  simp only [binOp]
  simp [Op.equal, Op.maxDepth, h 9999]
/-- One operation of a quiet walk whose run is known. -/
theorem quiet_of_run {C : World → Prop} {o : Oper} {a : Act} {K : Act → Prop} (v : Value) (h : ∀ w, C w → (execOp a.eval o).run P w = .ok (.value v) w) (hk : K (a.put o.dst v)) : o.quiet P a C K :=
  ⟨v, fun w hw => by unfold Oper.quietAt; rw [h w hw]; exact ⟨rfl, rfl⟩, hk⟩
theorem run_load_op {op : Oper} {a : Act} {w : World} (ty : TypeId) (x : Operand) (ho : op.op = .load ty x) (b o : Nat) (hx : a.eval x = .pointer (some ⟨b, o, none⟩)) (cs : List Value) (d : TypeDesc) (hS : w.rangeAt b o cs)
    (hu : P.underlying ty = some d) (hd : d.isRow = true) (hi : (P.info? ty).map (·.size) = some cs.length) : (execOp a.eval op).run P w = .ok (.value (.agg cs.toArray)) w := by
  unfold execOp
  simp only [ho, hx, Instr.loadAt, Instr.sureAddr, Sem.run_bind, Sem.run_pure, Result.andThen_ok, run_loadVar_mid w b o ty cs d hS hu hd hi]
theorem run_neq_op {op : Oper} {a : Act} {w : World} (ty : TypeId) (x y : Operand) (ho : op.op = .binOp .neq ty x y ty) (vx vy : Value) (v : Value) (hx : a.eval x = vx) (hy : a.eval y = vy) (hr : (eqGuard .neq ty x y vx vy).run P w = .ok () w) (h : (binOp .neq ty vx vy).run P w = .ok v w) :
    (execOp a.eval op).run P w = .ok (.value v) w := by
  unfold execOp
  simp only [ho, hx, hy, Sem.run_bind, hr, h, Result.andThen_ok, Sem.run_pure]
end
theorem region_just {P : Program} {id : Nat} {Q : Exit → Act → World → Prop} {a : Act} {w w0 : World} {l : List Oper} (hd : w.drew = w0) (hm : P.follows .mixedOrders = true) (hB : Region.lexB .any l.toArray = true)
    (h : wpQuiet P l.toArray (fun w' => ∃ q : Just w0, w' = q.W) (fun a' => ∀ w', (∃ q : Just w0, w' = q.W) → Q .normal a' w') l a) : (Code.region id l.toArray true).wp P Q a w :=
  wp_region_quiet (C := fun w' => ∃ q : Just w0, w' = q.W) hm hB ⟨⟨w.drew, hd⟩, rfl⟩ (by simpa using h)
theorem pg_infoE : ∃ j : TypeInfo, Try.prog.info? 98 = some j ∧ j.size ≠ 0 := by
  have hi : (Try.prog.info? 98).map (·.size) = some 257 := by kernel_rfl
  cases hq : Try.prog.info? 98 with
  | none => rw [hq] at hi; cases hi
  | some i =>
    rw [hq] at hi
    have hs : i.size = 257 := by simpa using hi
    exact ⟨i, rfl, by omega⟩
def sameM (A C : PM) : Bool := decide (A.ks = C.ks) && A.ks.all fun n => pgEq (A.pg n) (C.pg n)
theorem sameM_not {A C : PM} (k : Int) (hk : k ∈ A.ks) (h : pgEq (A.pg k) (C.pg k) = false) : sameM A C = false := by
  unfold sameM
  have : (A.ks.all fun n => pgEq (A.pg n) (C.pg n)) = false := by
    rw [List.all_eq_false]
    exact ⟨k, hk, by rw [h]; simp⟩
  rw [this, Bool.and_false]
theorem sameM_all {A C : PM} (hk : A.ks = C.ks) (h : ∀ j, j < A.ks.length → pgEq (A.pg (gi A.ks j)) (C.pg (gi A.ks j)) = true) : sameM A C = true := by
  unfold sameM
  rw [decide_eq_true hk, Bool.true_and, List.all_eq_true]
  intro n hn
  obtain ⟨j, hj, rfl⟩ := List.getElem_of_mem hn
  have := h j hj
  rwa [gi_get _ _ hj] at this
theorem pgEq_self (p : Pg) : pgEq p p = true := decide_eq_true ⟨rfl, rfl⟩
set_option maxRecDepth 100000 in
set_option maxHeartbeats 4000000 in
theorem Same_any (W : World) (a b : Nat) (S T : MS) (A C : PM) (ha : MemIs W a S A) (hb : MemIs W b T C) :
    Calls Try.prog 19 #[.pointer (some ⟨a, 0, none⟩), .pointer (some ⟨b, 0, none⟩)] W fun e w' => e = .returned (.bool (sameM A C)) ∧ Below W.heap.size W w' := by
  have HKA := Lib.hid (known_any W a S A ha)
  have HA := Lib.hid ha
  have HBB := Lib.hid hb
  have hle1 := ha.le
  have hle2 := hb.le
  clear ha hb
  go_enter Try.func19, Try.ntmps19
  go_wp2_with fail
  refine HKA.out.mono ?_
  rintro e w1 ⟨v1, rfl, hk1⟩
  obtain ⟨A1, c1, rfl, rd1⟩ := own_rd hk1.row
  have HB1 := Lib.hid hk1.below
  have R1 := Lib.hid rd1
  have HKB := Lib.hid (known_any w1 b T C (HBB.out.below hk1.below))
  clear hk1 rd1 HKA
  go_wp2_with fail
  refine HKB.out.mono ?_
  rintro e w2 ⟨v2, rfl, hk2⟩
  obtain ⟨A2, c2, rfl, rd2⟩ := own_rd hk2.row
  have HB2 := Lib.hid (bvia HB1.out hk2.below (Nat.le_refl _))
  have HEQ := Lib.hid (Equal_ints w2 A1 A2 A.ks C.ks c1 c2 (R1.out.below hk2.below) rd2)
  have R12 := Lib.hid (R1.out.below hk2.below)
  clear hk2 rd2 HKB
  go_wp2_with fail
  refine HEQ.out.mono ?_
  rintro e w3 ⟨rfl, hb3⟩
  have HB3 := Lib.hid (bvia HB2.out hb3 (Nat.le_refl _))
  have R3 := Lib.hid (R12.out.below hb3)
  clear hb3 HEQ R12 R1
  by_cases hks : A.ks = C.ks
  · rw [decide_eq_true hks]
    have HKS := Lib.hid hks
    clear hks
    obtain ⟨ks, hks⟩ : ∃ ks, A.ks = ks := ⟨_, rfl⟩
    rw [hks] at R3 hle1 ⊢
    have HK := Lib.hid hks
    clear hks
    have hc1 := R3.out.le
    go_wp2_with fail
    go_loopw [19] (fun i wr => ∃ k : Nat, k ≤ ks.length ∧ i = .int .i64 k ∧ Hid (Below w3.heap.size w3 wr ∧ ∀ j, j < k → pgEq (A.pg (gi ks j)) (C.pg (gi ks j)) = true)) (fun i _ => ks.length - (intOf i).toNat)
    case atStart => exact ⟨0, Nat.zero_le _, rfl, Lib.hid ⟨Below.refl _ _, fun j hj => by omega⟩⟩
    case round =>
      obtain ⟨k, hk, rfl, hI⟩ := hrel
      obtain ⟨hbr, hall⟩ := hI.out
      by_cases hlt : k < ks.length
      · obtain ⟨ad, rfl, x0⟩ := RdI.at (R3.out.below hbr) k hlt
        have hbw := bvia HB3.out hbr (Nat.le_refl _)
        have hma := HA.out.below hbw
        have hmb := HBB.out.below hbw
        obtain ⟨n, hn⟩ : ∃ n, gi ks k = n := ⟨_, rfl⟩
        have hnA : n ∈ A.ks := by rw [HK.out, ← hn]; exact gi_mem ks k hlt
        have hnC : n ∈ C.ks := by rw [← HKS.out]; exact hnA
        have hata := at_any wr a S A n hma
        rw [if_pos hnA] at hata
        have hatb := at_any wr b T C n hmb
        rw [if_pos hnC] at hatb
        have HATA := Lib.hid hata
        have HATB := Lib.hid hatb
        obtain ⟨pa, oka⟩ := hma.page n hnA
        obtain ⟨pb, okb⟩ := hmb.page n hnC
        have HALL := Lib.hid hall
        have HBR := Lib.hid hbr
        rw [hn] at x0
        have HN := Lib.hid hn
        have HNA := Lib.hid hnA
        obtain ⟨W6, hW6⟩ : ∃ W6, wr.drew = W6 := ⟨_, rfl⟩
        have hb6 : Below w3.heap.size w3 W6 := by rw [← hW6]; exact bdrewN hbr 1
        have HB6 := Lib.hid hb6
        have hpa : ∀ q : Just W6, q.W.heap[S.at_ n]? = some (pgObj (A.pg n)) := fun q => by rw [q.eq, ← hW6]; exact pa
        have hpb : ∀ q : Just W6, q.W.heap[T.at_ n]? = some (pgObj (C.pg n)) := fun q => by rw [q.eq, ← hW6]; exact pb
        obtain ⟨j0, hj0, hjs⟩ := pg_infoE
        clear hI hbr hall hbw hma hmb hata hatb hnA hnC hn hb6
        by_cases hsame : S.at_ n = T.at_ n
        · have hne : ∀ q : Just W6, (binOp .neq 95 (.pointer (some ⟨S.at_ n, 0, none⟩)) (.pointer (some ⟨T.at_ n, 0, none⟩))).run Try.prog q.W = .ok (.bool false) q.W := fun q => by
            rw [hsame]; exact run_neq_ptr_same q.W _ Try.underlying95 hj0
          have heq : pgEq (A.pg n) (C.pg n) = true := by
            rw [hsame, pb] at pa
            have : C.pg n = A.pg n := pgObj_inj (Option.some.inj pa)
            rw [this]; exact pgEq_self _
          have HE := Lib.hid heq
          clear hsame heq pa pb hpa hpb hj0 hjs
          go_wp2_with fail
          refine HATA.out.mono ?_
          rintro e wx ⟨rfl, rfl⟩
          go_wp2_with fail
          refine HATB.out.mono ?_
          rintro e wx ⟨rfl, rfl⟩
          go_wp2_with fail
          refine region_just hW6 (by kernel_rfl) (by kernel_rfl) ?_
          repeat (go_big_quiet_step (fail))
          refine wpQuiet_nil ?_
          rintro _ ⟨q, rfl⟩
          rw [q.eq]
          go_wp2_with fail
          go_roundw
          case rel => exact ⟨k + 1, by omega, by go_num, Lib.hid ⟨HB6.out, fun j hj => by
            by_cases hjk : j = k
            · rw [hjk, HN.out]; exact HE.out
            · exact HALL.out j (by omega)⟩⟩
          case measure => simp [intOf]; omega
        · have hne : ∀ q : Just W6, (binOp .neq 95 (.pointer (some ⟨S.at_ n, 0, none⟩)) (.pointer (some ⟨T.at_ n, 0, none⟩))).run Try.prog q.W = .ok (.bool true) q.W := fun q =>
            run_neq_ptr_other q.W Try.underlying95 hj0 hjs (fun e => hsame (by injection e)) (hpa q) (hpb q)
          have hnp : ∀ V, (binOp .neq 98 (.agg (pgCells (A.pg n)).toArray) (.agg (pgCells (C.pg n)).toArray)).run Try.prog V = .ok (.bool (!pgEq (A.pg n) (C.pg n))) V := neq_page _ _ oka okb
          have sza : (Try.prog.info? 98).map (·.size) = some (pgCells (A.pg n)).length := by rw [pgCells_len oka]; kernel_rfl
          have szb : (Try.prog.info? 98).map (·.size) = some (pgCells (C.pg n)).length := by rw [pgCells_len okb]; kernel_rfl
          have rga : ∀ q : Just W6, q.W.rangeAt (S.at_ n) 0 (pgCells (A.pg n)) := fun q => pg_range (hpa q)
          have rgb : ∀ q : Just W6, q.W.rangeAt (T.at_ n) 0 (pgCells (C.pg n)) := fun q => pg_range (hpb q)
          obtain ⟨pA, hpA⟩ : ∃ p, S.at_ n = p := ⟨_, rfl⟩
          obtain ⟨pB, hpB⟩ : ∃ p, T.at_ n = p := ⟨_, rfl⟩
          have HATA2 : Hid (Calls Try.prog 62 #[.pointer (some ⟨a, 0, none⟩), .int .i64 n] wr fun e w' => e = .returned (.pointer (some ⟨pA, 0, none⟩)) ∧ wr = w') := Lib.hid (by rw [← hpA]; exact HATA.out)
          have HATB2 : Hid (Calls Try.prog 62 #[.pointer (some ⟨b, 0, none⟩), .int .i64 n] wr fun e w' => e = .returned (.pointer (some ⟨pB, 0, none⟩)) ∧ wr = w') := Lib.hid (by rw [← hpB]; exact HATB.out)
          rw [hpA, hpB] at hne
          rw [hpA] at rga
          rw [hpB] at rgb
          obtain ⟨ca, hca⟩ : ∃ ca, pgCells (A.pg n) = ca := ⟨_, rfl⟩
          obtain ⟨cc, hcc⟩ : ∃ cc, pgCells (C.pg n) = cc := ⟨_, rfl⟩
          rw [hca] at rga sza hnp
          rw [hcc] at rgb szb hnp
          obtain ⟨bo, hbo⟩ : ∃ bo, pgEq (A.pg n) (C.pg n) = bo := ⟨_, rfl⟩
          rw [hbo] at hnp
          have HBO := Lib.hid hbo
          have HNP := Lib.hid hnp
          have HRA := Lib.hid rga
          have HRB := Lib.hid rgb
          have HSA := Lib.hid sza
          have HSB := Lib.hid szb
          clear hsame pa pb hpa hpb hj0 hjs hpA hpB HATA HATB hca hcc hbo hnp rga rgb sza szb oka okb
          go_wp2_with fail
          refine HATA2.out.mono ?_
          rintro e wx ⟨rfl, rfl⟩
          go_wp2_with fail
          refine HATB2.out.mono ?_
          rintro e wx ⟨rfl, rfl⟩
          go_wp2_with fail
          refine region_just hW6 (by kernel_rfl) (by kernel_rfl) ?_
          iterate 6 (go_big_quiet_step (fail))
          refine BigFrame.wpQuiet_want (by kernel_rfl) (fun K hK => ?_)
          refine quiet_of_run (.agg ca.toArray) (fun V hV => ?_) (hK _ ?_)
          · obtain ⟨q, rfl⟩ := hV
            exact run_load_op 98 (.tmp 34) rfl pA 0 rfl ca _ (HRA.out q) Try.underlying98 rfl HSA.out
          clear hK K
          simp only [Act.put, List.setIfInBounds_toArray, List.set_cons_zero, List.set_cons_succ]
          iterate 2 (go_big_quiet_step (fail))
          refine BigFrame.wpQuiet_want (by kernel_rfl) (fun K hK => ?_)
          refine quiet_of_run (.agg cc.toArray) (fun V hV => ?_) (hK _ ?_)
          · obtain ⟨q, rfl⟩ := hV
            exact run_load_op 98 (.tmp 37) rfl pB 0 rfl cc _ (HRB.out q) Try.underlying98 rfl HSB.out
          clear hK K
          simp only [Act.put, List.setIfInBounds_toArray, List.set_cons_zero, List.set_cons_succ]
          refine BigFrame.wpQuiet_want (by kernel_rfl) (fun K hK => ?_)
          refine quiet_of_run (.bool (!bo)) (fun V hV => ?_) (hK _ ?_)
          · exact run_neq_op 98 (.tmp 35) (.tmp 38) rfl (.agg ca.toArray) (.agg cc.toArray) _ rfl rfl (run_eqGuard_agg V .neq 98 _ _ _ _ (by kernel_rfl)) (HNP.out V)
          clear hK K
          simp only [Act.put, List.setIfInBounds_toArray, List.set_cons_zero, List.set_cons_succ]
          iterate 1 (go_big_quiet_step (fail))
          refine wpQuiet_nil ?_
          rintro _ ⟨q, rfl⟩
          rw [q.eq]
          cases hb : bo with
          | true =>
            have HE : Hid (pgEq (A.pg n) (C.pg n) = true) := Lib.hid (HBO.out.trans hb)
            clear hb
            go_wp2_with fail
            go_roundw
            case rel => exact ⟨k + 1, by omega, by go_num, Lib.hid ⟨HB6.out, fun j hj => by
              by_cases hjk : j = k
              · rw [hjk, HN.out]; exact HE.out
              · exact HALL.out j (by omega)⟩⟩
            case measure => simp [intOf]; omega
          | false =>
            have HE : Hid (sameM A C = false) := Lib.hid (sameM_not n HNA.out (HBO.out.trans hb))
            have HBR6 := Lib.hid (bvia HB3.out HB6.out (Nat.le_refl _))
            clear hb
            go_wp2_with fail
            go_ret
            rw [HE.out]
            exact ⟨rfl, HBR6.out⟩
      · obtain rfl : k = ks.length := by omega
        have HS := Lib.hid (show sameM A C = true from sameM_all HKS.out (by rw [HK.out]; exact hall))
        have HBR := Lib.hid (bvia HB3.out hbr (Nat.le_refl _))
        clear hI hbr hall
        go_wp2_with fail
        go_ret
        rw [HS.out]
        exact ⟨rfl, HBR.out⟩
  · rw [decide_eq_false hks]
    have HS : Hid (sameM A C = false) := Lib.hid (by unfold sameM; rw [decide_eq_false hks, Bool.false_and])
    clear hks
    go_wp2_with fail
    go_ret
    rw [HS.out]
    exact ⟨rfl, HB3.out⟩
end Go.Proofs.Ytidojcogojchpaa

/- mem's laws: MemBack. -/
set_option linter.unusedVariables false
set_option linter.unusedSimpArgs false
namespace Go.Proofs.Ytidojcogojchpaa
open Go.RowKit Go.Shelf

theorem seeM_eq {ks ks' : List Int} {pg pg' : Int → Pg} (h : seeM ks pg = seeM ks' pg') : ks = ks' ∧ ∀ n ∈ ks, (pg n).r = (pg' n).r ∧ (pg n).bs = (pg' n).bs := by
  have h1 : ks = ks' := by
    have := congrArg (List.map fun t : Int × Int × List Int => t.1) h
    simpa [seeM, List.map_map, Function.comp_def] using this
  subst h1
  refine ⟨rfl, fun n hn => ?_⟩
  have := List.map_inj_left.1 h n hn
  simp only [Prod.mk.injEq, true_and] at this
  exact this
theorem M1.psOk {B : Nat} {W : World} {b : Nat} {A : PM} (h : M1 B W b A) {qs : List PV} (hs : qs.map PV.see = seeM A.ks A.pg) : PsOk qs := by
  obtain ⟨S, h1, _⟩ := h.ex
  have hn : qs.map (·.n) = A.ks := by
    have := congrArg (List.map fun t : Int × Int × List Int => t.1) hs
    simpa [seeM, List.map_map, Function.comp_def, PV.see] using this
  have hmem : ∀ q ∈ qs, q.n ∈ A.ks ∧ q.r = (A.pg q.n).r ∧ q.bs = (A.pg q.n).bs := fun q hq => by
    have hm : q.see ∈ seeM A.ks A.pg := by rw [← hs]; exact List.mem_map.2 ⟨q, hq, rfl⟩
    obtain ⟨k, hk, e⟩ := List.mem_map.1 hm
    simp only [PV.see, Prod.mk.injEq] at e
    obtain ⟨e1, e2, e3⟩ := e
    rw [← e1]
    exact ⟨hk, e2.symm, e3.symm⟩
  have hl : qs.length = A.ks.length := by rw [← hn, List.length_map]
  have hle := h1.mem.le
  exact ⟨by rw [hn]; exact h1.mem.up, fun q hq => h1.mem.rng _ (hmem q hq).1, fun q hq => by
    obtain ⟨e1, e2, e3⟩ := hmem q hq
    have := (h1.mem.page _ e1).2
    exact ⟨by rw [e3]; exact this.len, by rw [e3]; exact this.u8, by rw [e2]; exact this.r⟩, by omega⟩
/-- A memory and the one loaded from its pages. -/
theorem loaded_same {A K : PM} (h : seeM K.ks K.pg = seeM A.ks A.pg) : sameM A K = true ∧ sameM K A = true ∧ diffL A K = [] := by
  obtain ⟨h1, h2⟩ := seeM_eq h
  refine ⟨?_, ?_, diff_nil h1 fun n hn => (h2 n (by rw [h1]; exact hn)).2⟩
  · unfold sameM
    rw [decide_eq_true h1.symm, Bool.true_and, List.all_eq_true]
    intro n hn
    have := h2 n (by rw [h1]; exact hn)
    exact decide_eq_true ⟨this.1.symm, this.2.symm⟩
  · unfold sameM
    rw [decide_eq_true h1, Bool.true_and, List.all_eq_true]
    intro n hn
    exact decide_eq_true (h2 n hn)
theorem Same_M {B1 B2 : Nat} {W : World} {b c : Nat} {A C : PM} (h : M1 B1 W b A) (h' : M1 B2 W c C) :
    Calls Try.prog 19 #[.pointer (some ⟨b, 0, none⟩), .pointer (some ⟨c, 0, none⟩)] W fun e w' => e = .returned (.bool (sameM A C)) ∧ Below W.heap.size W w' := by
  obtain ⟨S, h1, _⟩ := h.ex
  obtain ⟨T, h2, _⟩ := h'.ex
  exact Same_any W b c S T A C h1.mem h2.mem
/-- Map leaves alone what was laid behind the memory. -/
theorem M1.MapK {B : Nat} {W0 W : World} {b : Nat} {A : PM} (h : M1 B W0 b A) (hb : Below W0.heap.size W0 W) (f n r : Int) :
    Calls Try.prog 33 #[.pointer (some ⟨b, 0, none⟩), .int .i64 f, .int .i64 n, .int .i64 r] W fun e w' => e = .returned (.int .i64 (mapR A f n r)) ∧ M1 B w' b (mapA A f n r) ∧ Below B W w' ∧ ∀ k, W0.heap.size ≤ k → k < W.heap.size → w'.heap[k]? = W.heap[k]? := by
  obtain ⟨S, h1, h2⟩ := h.ex
  refine (Map_all W b S A f n r (h1.below hb)).mono fun e w' ⟨a, d⟩ => ?_
  obtain ⟨d1, d2⟩ := M1.of_did (h1.below hb) h2 d
  obtain ⟨S', _, g⟩ := d.ex
  exact ⟨a, d1, d2, fun k hk hk' => g.upd.block k hk' fun hf => by have := h1.mem.lt k (h1.mem.foot_reads k hf); omega⟩
/-- What the loop carries. -/
def BkI (w : World) (B b : Nat) (V : World) : Prop := ∃ A, M1 B V b A ∧ Below w.heap.size w V
set_option maxRecDepth 1000000 in
set_option maxHeartbeats 8000000 in
theorem back_any (A : Option Addr) (c : Nat) (ps : List PV) (D : Option Addr) (cd : Nat) (xs : List CV) (w : World) (hp : PsIn w A c ps) (hx : CsIn w D cd xs) :
    Calls Try.prog 6 #[.slice A ps.length c, .slice D xs.length cd] w fun e w' => e = .returned (.bool true) ∧ Below w.heap.size w w' := by
  have HP := Lib.hid hp
  have HX := Lib.hid hx
  have hlen := hp.rd.le
  have hcx := hx.cap
  have hlx := hx.le
  clear hp hx
  go_enter Try.func6, Try.ntmps6
  go_wp2_with fail
  refine (sane_any w).mono ?_
  rintro e W1 ⟨rfl, hb1⟩
  have HB1 := Lib.hid hb1
  have HP1 := Lib.hid (HP.out.below hb1)
  clear hb1
  go_wp2_with fail
  refine (loaded_any W1 A c ps HP1.out.rd HP1.out.by_ HP1.out.u8).mono ?_
  rintro e W2 ⟨hb2, hres⟩
  have HB2 := Lib.hid (bvia HB1.out hb2 (Nat.le_refl _))
  clear hb2
  rcases hres with ⟨⟨hl20, hisp⟩, mb, rfl, hld⟩ | ⟨hnot, rfl⟩
  · have hc20 : ¬ (ps.length : Int) > 20 := by omega
    have HPO := Lib.hid (psOk_of hisp HP1.out.u8 (by omega))
    have HM := Lib.hid hld.m1.1
    have HISP := Lib.hid hisp
    clear hisp hld
    have HFW := Lib.hid (few_any W2 D cd xs (HX.out.below HB2.out))
    cases hfw : fewB xs with
    | false =>
      rw [hfw] at HFW
      go_wp2_with fail
      refine HFW.out.mono ?_
      rintro e W3 ⟨rfl, hb3⟩
      have HB3 := Lib.hid (bvia HB2.out hb3 (Nat.le_refl _))
      clear hb3
      have HI := Lib.hid (IsPages_any W3 A c ps (HP.out.below HB3.out).rd)
      rw [HISP.out] at HI
      go_wp2_with fail
      refine HI.out.mono ?_
      rintro e W4 ⟨rfl, hb4⟩
      have HB4 := Lib.hid (bvia HB3.out hb4 (Nat.le_refl _))
      clear hb4
      have HFW4 := Lib.hid (few_any W4 D cd xs (HX.out.below HB4.out))
      rw [hfw] at HFW4
      clear hfw HFW
      go_wp2_with fail
      refine HFW4.out.mono ?_
      rintro e W5 ⟨rfl, hb5⟩
      have HB5 := Lib.hid (bvia HB4.out hb5 (Nat.le_refl _))
      clear hb5
      go_wp2_with fail
      go_ret
      exact ⟨rfl, HB5.out⟩
    | true =>
      rw [hfw] at HFW
      clear hfw
      go_wp2_with fail
      refine HFW.out.mono ?_
      rintro e W3 ⟨rfl, hb3⟩
      have HM3 := Lib.hid (HM.out.below hb3)
      have HB3 := Lib.hid (bvia HB2.out hb3 (Nat.le_refl _))
      have hs3 : w.heap.size ≤ W1.heap.size := HB1.out.size
      clear hb3 HFW
      go_wp2_with fail
      refine HM3.out.Save.mono ?_
      rintro e W4 ⟨⟨A4, c4, qs4, rfl, rd4, new4, see4, by4, u4⟩, hb4⟩
      rw [save_load ps HPO.out] at see4
      have HM4 := Lib.hid (HM3.out.below hb4)
      have HB4 := Lib.hid (bvia HB3.out hb4 (Nat.le_refl _))
      have HSP := Lib.hid (SamePages_any W4 A4 A c4 c qs4 ps rd4 ((HP.out.below HB4.out).rd) by4.zero (HP.out.below HB4.out).by_ u4 HP.out.u8)
      rw [sameP_of see4] at HSP
      clear rd4 new4 see4 by4 u4 hb4
      go_wp2_with fail
      refine HSP.out.mono ?_
      rintro e W5 ⟨rfl, hb5⟩
      have HI5 : Hid (BkI w W1.heap.size mb W5) := Lib.hid ⟨_, HM4.out.below hb5, bvia HB4.out hb5 (Nat.le_refl _)⟩
      clear hb5 HSP HM4 HB4 HM3 HB3
      go_wp2_with fail
      go_loopw [45] (fun i wr => ∃ k : Nat, k ≤ xs.length ∧ i = .int .i64 k ∧ Hid (BkI w W1.heap.size mb wr)) (fun i _ => xs.length - (intOf i).toNat)
      case atStart => exact ⟨0, Nat.zero_le _, rfl, HI5⟩
      case round =>
        obtain ⟨k, hk, rfl, hI⟩ := hrel
        obtain ⟨C, m5, hb5⟩ := hI.out
        by_cases hlt : k < xs.length
        · have hXk := HX.out.ok _ (gx_mem xs k hlt)
          obtain ⟨ad, rfl, x0, x1, x2, x3, x4, x5⟩ := (HX.out.below hb5).at k hlt
          obtain ⟨X, hX⟩ : ∃ X, gx xs k = X := ⟨_, rfl⟩
          rw [hX] at x0 x1 x2 x3 x4 x5 hXk
          obtain ⟨kind, pg, n, rt, a, Ab, cb, bs⟩ := X
          obtain ⟨W5, hW5⟩ : ∃ W5, wr.alloc (.cells #[.int .i64 kind, .int .i64 pg, .int .i64 n, .int .i64 rt, .int .u32 a, .slice Ab bs.length cb] 54) = W5 := ⟨_, rfl⟩
          have h5 : W5.heap[wr.heap.size]? = some (.cells #[.int .i64 kind, .int .i64 pg, .int .i64 n, .int .i64 rt, .int .u32 a, .slice Ab bs.length cb] 54 (0, 0)) := by rw [← hW5]; exact heap_alloc_new wr _
          have hbw : Below wr.heap.size wr W5 := by rw [← hW5]; exact balloc wr _
          have y1 : W5.cell? ⟨wr.heap.size, 1, none⟩ = some (.int .i64 pg) := by simp [World.cell?, h5]
          have y2 : W5.cell? ⟨wr.heap.size, 2, none⟩ = some (.int .i64 n) := by simp [World.cell?, h5]
          have y3 : W5.cell? ⟨wr.heap.size, 3, none⟩ = some (.int .i64 rt) := by simp [World.cell?, h5]
          have HH5 := Lib.hid h5
          have HM5 := Lib.hid (m5.MapK hbw pg n rt)
          have hs5 : wr.heap.size < W5.heap.size := (Array.getElem?_eq_some_iff.1 h5).1
          have HB5 := Lib.hid (bvia hb5 hbw (Nat.le_refl _))
          have HOK := Lib.hid hXk
          clear h5 hbw hX hXk m5 hb5 hI
          go_wp2_with fail
          refine HM5.out.mono ?_
          rintro e W6 ⟨rfl, m6, hb6, hkp⟩
          have h6 := (hkp _ (Nat.le_refl _) hs5).trans HH5.out
          have z4 : W6.cell? ⟨wr.heap.size, 4, none⟩ = some (.int .u32 a) := by simp [World.cell?, h6]
          have z5 : W6.cell? ⟨wr.heap.size, 5, none⟩ = some (.slice Ab bs.length cb) := by simp [World.cell?, h6]
          have HM6 := Lib.hid m6
          have HB6 := Lib.hid (HB5.out.trans (hb6.mono hs3))
          obtain ⟨z1, hz1⟩ : ∃ z, mapR C pg n rt = z := ⟨_, rfl⟩
          rw [hz1]
          clear m6 hb6 hkp h6 hz1 y1 y2 y3
          go_wp2_with fail
          refine (HM6.out.Write0 a bs Ab cb HOK.out.at_ HOK.out.bs.cap ((HOK.out.bs.below HB6.out).rd) HOK.out.bs.u8 fun h0 ad e => by have := HOK.out.bs.rd.old (by rw [Nat.mul_one]; exact h0) ad e; omega).mono ?_
          rintro e W7 ⟨rfl, m7, hb7⟩
          have HI7 : Hid (BkI w W1.heap.size mb W7) := Lib.hid ⟨_, m7, HB6.out.trans (hb7.mono hs3)⟩
          obtain ⟨z2, hz2⟩ : ∃ z, wrA (mapA C pg n rt) 2 a bs.length = z := ⟨_, rfl⟩
          obtain ⟨z3, hz3⟩ : ∃ z, wrB (mapA C pg n rt) 2 a bs.length = z := ⟨_, rfl⟩
          rw [hz2, hz3]
          clear m7 hb7 hz2 hz3
          go_wp2_with fail
          go_roundw
          case rel => exact ⟨k + 1, by omega, by go_num, HI7⟩
          case measure => simp [intOf]; omega
        · obtain rfl : k = xs.length := by omega
          have HM5 := Lib.hid m5
          have HB5 := Lib.hid hb5
          clear m5 hb5 hI hlt hk
          obtain ⟨wl, hwl⟩ : ∃ wl, wl = wr := ⟨wr, rfl⟩
          rw [← hwl] at HM5 HB5 ⊢
          clear hwl
          go_wp2_with fail
          refine HM5.out.Save.mono ?_
          rintro e W6 ⟨⟨A6, c6, qs, rfl, rd6, new6, see6, by6, u6⟩, hb6⟩
          have HPQ := Lib.hid (HM5.out.psOk see6)
          have HM6 := Lib.hid (HM5.out.below hb6)
          have HB6 := Lib.hid (bvia HB5.out hb6 (Nat.le_refl _))
          have HSEE := Lib.hid see6
          have HLD := Lib.hid (Load_any W6 A6 c6 qs rd6 by6.zero HPQ.out)
          clear rd6 new6 see6 by6 u6 hb6
          go_wp2_with fail
          refine HLD.out.mono ?_
          rintro e W7 ⟨kb, rfl, hld⟩
          obtain ⟨k7, hb7⟩ := hld.m1
          obtain ⟨K, hK⟩ : ∃ K, ldM qs = K := ⟨_, rfl⟩
          rw [hK] at k7
          have HSL : Hid (seeM K.ks K.pg = seeM C.ks C.pg) := Lib.hid (by rw [← hK, save_load qs HPQ.out, HSEE.out])
          have HK7 := Lib.hid k7
          have HM7 := Lib.hid (HM6.out.below hb7)
          have HB7 := Lib.hid (bvia HB6.out hb7 (Nat.le_refl _))
          have HLS := Lib.hid (loaded_same HSL.out)
          clear hld k7 hb7 hK HLD HPQ HSEE
          go_wp2_with fail
          refine (Same_M HM7.out HK7.out).mono ?_
          rintro e W8 ⟨rfl, hb8⟩
          rw [HLS.out.1]
          have HM8 := Lib.hid (HM7.out.below hb8)
          have HK8 := Lib.hid (HK7.out.below hb8)
          have HB8 := Lib.hid (bvia HB7.out hb8 (Nat.le_refl _))
          clear hb8
          go_wp2_with fail
          refine (Same_M HK8.out HM8.out).mono ?_
          rintro e W9 ⟨rfl, hb9⟩
          rw [HLS.out.2.1]
          have HM9 := Lib.hid (HM8.out.below hb9)
          have HK9 := Lib.hid (HK8.out.below hb9)
          have HB9 := Lib.hid (bvia HB8.out hb9 (Nat.le_refl _))
          clear hb9
          go_wp2_with fail
          refine HM9.out.Save.mono ?_
          rintro e W10 ⟨⟨A10, c10, qa, rfl, rd10, new10, see10, by10, u10⟩, hb10⟩
          have HM10 := Lib.hid (HM9.out.below hb10)
          have HK10 := Lib.hid (HK9.out.below hb10)
          have HB10 := Lib.hid (bvia HB9.out hb10 (Nat.le_refl _))
          have R10 := Lib.hid rd10
          have Y10 := Lib.hid by10
          have HSA := Lib.hid see10
          have HUA := Lib.hid u10
          clear hb10 rd10 new10 see10 by10 u10
          go_wp2_with fail
          refine HK10.out.Save.mono ?_
          rintro e W11 ⟨⟨A11, c11, qb, rfl, rd11, new11, see11, by11, u11⟩, hb11⟩
          have HM11 := Lib.hid (HM10.out.below hb11)
          have HK11 := Lib.hid (HK10.out.below hb11)
          have HB11 := Lib.hid (bvia HB10.out hb11 (Nat.le_refl _))
          have HSP := Lib.hid (SamePages_any W11 A10 A11 c10 c11 qa qb (R10.out.below hb11) rd11 (Y10.out.below hb11).zero by11.zero HUA.out u11)
          rw [sameP_of (HSA.out.trans (HSL.out.symm.trans see11.symm))] at HSP
          clear hb11 rd11 new11 see11 by11 u11
          go_wp2_with fail
          refine HSP.out.mono ?_
          rintro e W12 ⟨rfl, hb12⟩
          have HM12 := Lib.hid (HM11.out.below hb12)
          have HK12 := Lib.hid (HK11.out.below hb12)
          have HB12 := Lib.hid (bvia HB11.out hb12 (Nat.le_refl _))
          clear hb12 HSP
          go_wp2_with fail
          refine (Diff_M HM12.out HK12.out).mono ?_
          rintro e W13 ⟨⟨A13, c13, rfl, rd13, new13⟩, hb13⟩
          rw [HLS.out.2.2]
          have HB13 := Lib.hid (bvia HB12.out hb13 (Nat.le_refl _))
          clear rd13 new13 hb13
          go_wp2_with fail
          go_ret
          exact ⟨rfl, HB13.out⟩
  · have HI := Lib.hid (IsPages_any W2 A c ps (HP.out.below HB2.out).rd)
    cases hisp : isP ps with
    | false =>
      rw [hisp] at HI
      clear hisp hnot
      go_wp2_with fail
      refine HI.out.mono ?_
      rintro e W3 ⟨rfl, hb3⟩
      have HB3 := Lib.hid (bvia HB2.out hb3 (Nat.le_refl _))
      clear hb3
      go_wp2_with fail
      go_ret
      exact ⟨rfl, HB3.out⟩
    | true =>
      have hc20 : (ps.length : Int) > 20 := by
        rcases Nat.lt_or_ge 20 ps.length with h | h
        · omega
        · exact absurd ⟨h, hisp⟩ hnot
      rw [hisp] at HI
      clear hisp hnot
      go_wp2_with fail
      refine HI.out.mono ?_
      rintro e W3 ⟨rfl, hb3⟩
      have HB3 := Lib.hid (bvia HB2.out hb3 (Nat.le_refl _))
      clear hb3
      go_wp2_with fail
      go_ret
      exact ⟨rfl, HB3.out⟩
end Go.Proofs.Ytidojcogojchpaa

/- package slices: Grow of a nil slice of bytes, Concat of two slices of bytes. -/
set_option linter.unusedVariables false
set_option linter.unusedSimpArgs false
namespace Go.Proofs.Ytidojcogojchpaa
open Go.RowKit Go.Shelf

set_option maxRecDepth 100000 in
set_option maxHeartbeats 2000000 in
theorem Grow_nil (w : World) (n : Nat) (hn : n ≤ 1000000) :
    Calls Try.prog 76 #[.slice none 0 0, .int .i64 n] w fun e w' => ∃ v, e = .returned v ∧ w'.ownsRow w.heap.size 5 1 v 0 [] ∧ Below w.heap.size w w' := by
  by_cases h0 : n = 0
  · subst h0
    go_enter Try.func76, Try.ntmps76
    go_wp2
    go_ret
    exact ⟨_, rfl, World.ownsRow_nil _ _ _ _, Below.refl _ _⟩
  · obtain ⟨i0, hi0, hz0, hz1, hz2⟩ := info_parts info_u8
    have hrz := Lib.run_append_grow_zeros (P := Try.prog) w 42 3 42 5 i0 (Value.int .u8 0) .i64 .i64 Try.underlying42 Try.underlying3 hi0 hz0 none 0 0 [] (run_firstCells_none w.drew i0.size 0 0 0) n (by omega) (by omega) (by omega) (by omega) (by rw [hz2]; omega)
      (growslice_fits (by omega) (by rw [hz2]; omega))
    have hge : 0 + n ≤ grownCap w (0 + n) 0 5 := grownCap_ge w _ _ _
    have hmx := grownCap_le_maxLen w (0 + n) 0 5 (by unfold maxLen; omega)
    obtain ⟨G, hG⟩ : ∃ G, grownCap w (0 + n) 0 5 = G := ⟨_, rfl⟩
    rw [hG] at hrz hge hmx
    have hG63 : G ≤ 9223372036854775807 := by unfold maxLen at hmx; omega
    obtain ⟨cur, hcur⟩ : ∃ cur, (([] : List Value).toArray ++ Builtin.zeroCells (Value.int .u8 0).cells n ++ Builtin.zeroCells (Value.int .u8 0).cells (G - (0 + n))) = cur := ⟨_, rfl⟩
    rw [hcur] at hrz
    have hsz : cur.size = G := by
      rw [← hcur]
      simp [Builtin.zeroCells, Value.cells]
      omega
    have e1 : ¬ ((n : Int) < 0) := by omega
    have e2 : (n : Int) > 0 := by omega
    have e3 : wrap64 (n : Int) = n := by unfold wrap64; omega
    have HS := Lib.hid hsz
    have HM := Lib.hid hmx
    have hrz' : (Builtin.append_ #[42, 3] 42 #[.slice none 0 0, .int .i64 n]).run Try.prog w = .ok (.slice (some ⟨w.heap.size, 0, none⟩) n G) (w.drew.alloc (.cells cur 5)) := by rw [hrz]; simp
    clear hcur hG hrz hi0 hz0 hz1 hz2 hmx
    go_enter Try.func76, Try.ntmps76
    go_wp2_with (at_builtin; refine Lib.wpList_append_run _ rfl (.tmp 20) (.tmp 21) _ _ rfl _ _ rfl rfl _ _ hrz' ?_)
    all_goals
      go_ret
      refine ⟨_, rfl, ⟨rfl, .inr ⟨w.heap.size, G, cur, rfl, Nat.le_refl _, heap_alloc_new _ _, Nat.zero_le _, HM.out, by rw [HS.out]; omega, by simp⟩⟩, ?_⟩
      exact bvia (bdrewN (Below.refl _ w) 1) (balloc _ _) (Nat.le_refl _)
def cc2 (xs ys : List Int) : Nat → List Int
  | 0 => [] | 1 => xs | _ => xs ++ ys
set_option maxRecDepth 100000 in
set_option maxHeartbeats 4000000 in
theorem Concat2 (W : World) (g : Nat) (A1 A2 : Option Addr) (xs ys : List Int) (c1 c2 : Nat) (hg : W.heap[g]? = some (.cells #[.slice A1 xs.length c1, .slice A2 ys.length c2] 42 (0, 0)))
    (r1 : Rd W A1 xs.length 1 (nums .u8 xs)) (r2 : Rd W A2 ys.length 1 (nums .u8 ys)) (hx : xs.length ≤ 100000) (hy : ys.length ≤ 100000) (h1 : xs.length ≤ c1) (h2 : ys.length ≤ c2) :
    Calls Try.prog 38 #[.slice (some ⟨g, 0, none⟩) 2 2] W fun e w' => ∃ v, e = .returned v ∧ w'.ownsRow W.heap.size 5 1 v (xs ++ ys).length (nums .u8 (xs ++ ys)) ∧ Below W.heap.size W w' := by
  have R1 := Lib.hid r1
  have R2 := Lib.hid r2
  have c0 : W.cell? ⟨g, 0, none⟩ = some (.slice A1 xs.length c1) := by simp [World.cell?, hg]
  have c1' : W.cell? ⟨g, 1, none⟩ = some (.slice A2 ys.length c2) := by simp [World.cell?, hg]
  have C0 := Lib.hid c0
  have C1 := Lib.hid c1'
  clear r1 r2 hg c0 c1'
  go_enter Try.func38, Try.ntmps38
  go_wp2_with fail
  go_loopw [3, 11] (fun n i wr => ∃ k : Nat, k ≤ 2 ∧ i = .int .i64 k ∧ n = .int .i64 (cc2 xs ys k).length ∧ wr = W) (fun _ i _ => 2 - (intOf i).toNat)
  case atStart => exact ⟨0, by omega, rfl, rfl, rfl⟩
  case round =>
    obtain ⟨k, hk, rfl, rfl, rfl⟩ := hrel
    have h3 : k = 0 ∨ k = 1 ∨ k = 2 := by omega
    rcases h3 with rfl | rfl | rfl
    · have q0 := C0.out
      show Code.wp _ _ _ _ _
      simp only [show (cc2 xs ys 0).length = 0 from rfl]
      have hw : wrap64 (xs.length : Int) = xs.length := by unfold wrap64; omega
      have hng : ¬ (xs.length : Int) < 0 := by omega
      go_wp2_with fail
      go_roundw
      case rel => exact ⟨1, by omega, by go_num, rfl, trivial⟩
      case measure => simp [intOf]
    · have q0 := C1.out
      simp only [show (cc2 xs ys 1).length = xs.length from rfl]
      have hw : wrap64 ((xs.length : Int) + ys.length) = xs.length + ys.length := by unfold wrap64; omega
      have hng : ¬ ((xs.length : Int) + ys.length) < 0 := by omega
      go_wp2_with fail
      go_roundw
      case rel => exact ⟨2, by omega, by go_num, by show _ = Value.int .i64 (((xs ++ ys).length : Nat) : Int); simp, trivial⟩
      case measure => simp [intOf]
    · simp only [show (cc2 xs ys 2).length = (xs ++ ys).length from rfl]
      obtain ⟨nn, hnn⟩ : ∃ nn, (xs ++ ys).length = nn := ⟨_, rfl⟩
      rw [hnn]
      have hn1 : nn ≤ 1000000 := by rw [← hnn]; simp; omega
      obtain ⟨wl, hwl⟩ : ∃ wl, wl = wr := ⟨wr, rfl⟩
      have HWL := Lib.hid hwl
      rw [← hwl] at R1 R2 C0 C1 ⊢
      clear hwl
      have HGR := Lib.hid (Grow_nil wl nn hn1)
      go_wp2_with fail
      refine HGR.out.mono ?_
      rintro e w2 ⟨v, rfl, hv, hb2⟩
      have HI2 : Hid (w2.ownsRow wl.heap.size 5 1 v (cc2 xs ys 0).length (nums .u8 (cc2 xs ys 0)) ∧ Below wl.heap.size wl w2) := Lib.hid ⟨hv, hb2⟩
      clear hv hb2 HGR
      go_wp2_with fail
      go_loopw [6, 27] (fun v i wr => ∃ k : Nat, k ≤ 2 ∧ i = .int .i64 k ∧ Hid (wr.ownsRow wl.heap.size 5 1 v (cc2 xs ys k).length (nums .u8 (cc2 xs ys k)) ∧ Below wl.heap.size wl wr)) (fun _ i _ => 2 - (intOf i).toNat)
      case atStart => exact ⟨0, by omega, rfl, HI2⟩
      case round =>
        obtain ⟨k, hk, rfl, hI⟩ := hrel
        obtain ⟨hown, hbr⟩ := hI.out
        obtain ⟨i0, hi0, hz0, hz1, hz2⟩ := info_parts info_u8
        have h3 : k = 0 ∨ k = 1 ∨ k = 2 := by omega
        rcases h3 with rfl | rfl | rfl
        · have q0 := bkeep hbr C0.out
          obtain ⟨v', W', hrun, hown', hgr, _⟩ := app_gen (P := Try.prog) (t := 42) (ty := 42) (c := c1) Try.underlying42 hi0 hz0 hz1 hz2 rfl (by decide) hown (R1.out.below hbr) (nums_oneC .u8 xs) (by simp [cc2, maxLen]; omega) (by simp [cc2]; omega) hbr.size
          have hb' : Below wl.heap.size wl W' := hbr.grown hgr hbr.size fun k e => (World.ownsRow.lt hown k e).1
          have HI : Hid (W'.ownsRow wl.heap.size 5 1 v' (cc2 xs ys 1).length (nums .u8 (cc2 xs ys 1)) ∧ Below wl.heap.size wl W') := Lib.hid ⟨by simpa [cc2, nums] using hown', hb'⟩
          clear hown hown' hgr hb' hI
          go_wp2_with (at_builtin; refine Lib.wpList_append_run _ rfl (.tmp 31) (.tmp 32) _ _ rfl _ _ rfl rfl _ _ hrun ?_)
          go_roundw
          case rel => exact ⟨1, by omega, by go_num, HI⟩
          case measure => simp [intOf]
        · have q0 := bkeep hbr C1.out
          obtain ⟨v', W', hrun, hown', hgr, _⟩ := app_gen (P := Try.prog) (t := 42) (ty := 42) (c := c2) Try.underlying42 hi0 hz0 hz1 hz2 rfl (by decide) hown (R2.out.below hbr) (nums_oneC .u8 ys) (by simp [cc2, maxLen]; omega) (by simp [cc2]; omega) hbr.size
          have hb' : Below wl.heap.size wl W' := hbr.grown hgr hbr.size fun k e => (World.ownsRow.lt hown k e).1
          have HI : Hid (W'.ownsRow wl.heap.size 5 1 v' (cc2 xs ys 2).length (nums .u8 (cc2 xs ys 2)) ∧ Below wl.heap.size wl W') := Lib.hid ⟨by simpa [cc2, nums] using hown', hb'⟩
          clear hown hown' hgr hb' hI
          go_wp2_with (at_builtin; refine Lib.wpList_append_run _ rfl (.tmp 31) (.tmp 32) _ _ rfl _ _ rfl rfl _ _ hrun ?_)
          go_roundw
          case rel => exact ⟨2, by omega, by go_num, HI⟩
          case measure => simp [intOf]
        · clear hi0 hz0 hz1 hz2
          go_wp2_with fail
          go_ret
          exact ⟨_, rfl, by rw [← HWL.out]; exact hown, by rw [← HWL.out]; exact hbr⟩
end Go.Proofs.Ytidojcogojchpaa

/- package slices: Grow of a nil slice of calls, Concat of two slices of calls. (turned from XMGr) -/
set_option linter.unusedVariables false
set_option linter.unusedSimpArgs false
namespace Go.Proofs.Ytidojcogojchpaa
open Go.RowKit Go.Shelf

def zeroC : Value := .agg #[.int .i64 0, .int .i64 0, .int .i64 0, .int .i64 0, .int .u32 0, .slice none 0 0]
theorem info_call : (Try.prog.info? 54).map (fun i => (i.zero, i.size, i.bytes)) = some (some zeroC, 6, 64) := by kernel_rfl
theorem cflat_one (xs : List CV) : ∀ u ∈ cflat xs, u.oneCell' = true := by
  intro u hu
  obtain ⟨p, _, hp⟩ := List.mem_flatMap.1 hu
  simp [CV.cells] at hp
  rcases hp with rfl | rfl | rfl | rfl | rfl | rfl <;> rfl
theorem cflat_append (xs ys : List CV) : cflat (xs ++ ys) = cflat xs ++ cflat ys := by simp [cflat]

/-- A row with room for N elements in all. -/
structure RowR (W : World) (B : Nat) (e : TypeId) (sz : Nat) (v : Value) (n : Nat) (xs : List Value) (N : Nat) : Prop where
  own : W.ownsRow B e sz v n xs
  room : N = 0 ∨ ∃ g c, v = .slice (some ⟨g, 0, none⟩) n c ∧ N ≤ c
/-- An append that has room asks for no memory. -/
theorem app_room {P : Program} {W : World} {base : Nat} {t ty e : TypeId} {i : TypeInfo} {z : Value} {sz bytes N : Nat} (ht : P.underlying t = some (.slice e)) (hi : P.info? e = some i) (hz : i.zero = some z) (hsize : i.size = sz) (hby : i.bytes = bytes) (hzs : z.cells.size = sz) (hsz : 0 < sz)
    {v : Value} {n : Nat} {xs : List Value} (hown : RowR W base e sz v n xs N) {A : Option Addr} {m c : Nat} {news : List Value} (hr : Rd W A m sz news) (h1 : ∀ u ∈ news, u.oneCell' = true)
    (hN : n + m ≤ N) (hbase : base ≤ W.heap.size) :
    ∃ v' W', (Builtin.append_ #[t, t] ty #[v, .slice A m c]).run P W = .ok v' W' ∧ RowR W' base e sz v' (n + m) (xs ++ news) N ∧ W.grownBy W' v.ownBlock := by
  rcases hown.room with rfl | ⟨g, c0, rfl, hc0⟩
  · obtain ⟨rfl, rfl⟩ : n = 0 ∧ m = 0 := by omega
    obtain ⟨v', W', h1, h2, h3, _⟩ := app_gen (ty := ty) (c := c) ht hi hz hsize hby hzs hsz hown.own hr h1 (by unfold maxLen; omega) (by omega) hbase
    exact ⟨v', W', h1, ⟨h2, .inl rfl⟩, h3⟩
  · rcases hown.own.2 with ⟨h0, _⟩ | ⟨g', cap, cur, e1, hbg, hg, hnc, hcm, hcs, htake⟩
    · simp at h0
    simp only [Value.slice.injEq, Option.some.injEq, Addr.mk.injEq, and_true, true_and] at e1
    obtain ⟨rfl, rfl⟩ := e1
    have hlen : (xs ++ news).length = (n + m) * sz := by rw [List.length_append, hown.own.1, hr.len, Nat.add_mul]
    cases A with
    | none =>
      have hn : news = [] := by
        rcases news with _ | ⟨u, us⟩
        · rfl
        · obtain ⟨ad, e, _⟩ := hr.cell 0 (by simp)
          exact absurd e (by simp)
      subst hn
      have hl := hr.len
      obtain rfl : m = 0 := by
        rcases Nat.eq_zero_or_pos m with h | h
        · exact h
        · have := Nat.mul_pos h hsz
          simp at hl; omega
      refine ⟨.slice (some ⟨g, 0, none⟩) n c0, W, ?_, by simpa using hown, World.grownBy.refl W _⟩
      simp [Builtin.append_, run_underlying ht, sizeOf, typeInfo, hi, Builtin.lenOf, Builtin.firstCells, hnc, storeCells]
    | some ad =>
      subst hsize
      have hroom : n + m ≤ c0 := Nat.le_trans hN hc0
      have hl := hr.len
      have hnews : ∀ j u, news[j]? = some u → W.cell? (ad.add j) = some u := fun j u hu => by
        obtain ⟨hj, rfl⟩ := List.getElem?_eq_some_iff.1 hu
        obtain ⟨ad', e', hc⟩ := hr.cell j hj
        obtain rfl := Option.some.inj e'
        exact hc
      have hfit : n * i.size + news.length ≤ cur.size := by rw [hl, hcs, ← Nat.add_mul]; exact Nat.mul_le_mul_right _ hroom
      have hrun := run_append_room (P := P) W t ty e i ht hi g n c0 cur hg ad m c news hl hnews h1 hroom hfit
      refine ⟨_, _, hrun, ⟨⟨hlen, .inr ⟨g, c0, _, rfl, hbg, setRow_heap W g cur _ e _ hg, hroom, hcm, ?_, ?_⟩⟩, .inr ⟨g, c0, rfl, hc0⟩⟩, ⟨rfl, rfl, rfl, by simp, fun k _ hk => setRow_other W g k _ (fun e => hk (by simp [Value.ownBlock, e]))⟩⟩
      · simp only [List.size_toArray, List.length_append, List.length_take, List.length_drop, Array.length_toList]
        omega
      · rw [htake, ← hlen]
        exact List.take_left
set_option maxRecDepth 100000 in
set_option maxHeartbeats 2000000 in
theorem Grow_nilC (w : World) (n : Nat) (hn : n ≤ 4398046511104) :
    Calls Try.prog 88 #[.slice none 0 0, .int .i64 n] w fun e w' => ∃ v, e = .returned v ∧ RowR w' w.heap.size 54 6 v 0 [] n ∧ Below w.heap.size w w' := by
  by_cases h0 : n = 0
  · subst h0
    go_enter Try.func88, Try.ntmps88
    go_wp2
    go_ret
    exact ⟨_, rfl, ⟨World.ownsRow_nil _ _ _ _, .inl rfl⟩, Below.refl _ _⟩
  · obtain ⟨i0, hi0, hz0, hz1, hz2⟩ := info_parts info_call
    have hrz := Lib.run_append_grow_zeros (P := Try.prog) w 62 3 62 54 i0 zeroC .i64 .i64 Try.underlying62 Try.underlying3 hi0 hz0 none 0 0 [] (run_firstCells_none w.drew i0.size 0 0 0) n (by omega) (by omega) (by omega) (by omega) (by rw [hz2]; omega)
      (by unfold Builtin.nextslicecap; rw [if_pos (by omega), hz2]; omega)
    have hge : 0 + n ≤ grownCap w (0 + n) 0 54 := grownCap_ge w _ _ _
    have hmx := grownCap_le_maxLen w (0 + n) 0 54 (by unfold maxLen; omega)
    obtain ⟨G, hG⟩ : ∃ G, grownCap w (0 + n) 0 54 = G := ⟨_, rfl⟩
    rw [hG] at hrz hge hmx
    have hG63 : G ≤ 9223372036854775807 := by unfold maxLen at hmx; omega
    obtain ⟨cur, hcur⟩ : ∃ cur, (([] : List Value).toArray ++ Builtin.zeroCells zeroC.cells n ++ Builtin.zeroCells zeroC.cells (G - (0 + n))) = cur := ⟨_, rfl⟩
    rw [hcur] at hrz
    have hsz : cur.size = G * 6 := by
      rw [← hcur]
      simp [Builtin.zeroCells, Value.cells, zeroC]
      omega
    have e1 : ¬ ((n : Int) < 0) := by omega
    have e2 : (n : Int) > 0 := by omega
    have e3 : wrap64 (n : Int) = n := by unfold wrap64; omega
    have HS := Lib.hid hsz
    have HM := Lib.hid hmx
    have hrz' : (Builtin.append_ #[62, 3] 62 #[.slice none 0 0, .int .i64 n]).run Try.prog w = .ok (.slice (some ⟨w.heap.size, 0, none⟩) n G) (w.drew.alloc (.cells cur 54)) := by rw [hrz]; simp
    clear hcur hG hrz hi0 hz0 hz1 hz2 hmx
    go_enter Try.func88, Try.ntmps88
    go_wp2_with (at_builtin; refine Lib.wpList_append_run _ rfl (.tmp 20) (.tmp 21) _ _ rfl _ _ rfl rfl _ _ hrz' ?_)
    all_goals
      go_ret
      refine ⟨_, rfl, ⟨⟨rfl, .inr ⟨w.heap.size, G, cur, rfl, Nat.le_refl _, heap_alloc_new _ _, Nat.zero_le _, HM.out, by rw [HS.out], by simp⟩⟩, .inr ⟨_, G, rfl, by omega⟩⟩, ?_⟩
      exact bvia (bdrewN (Below.refl _ w) 1) (balloc _ _) (Nat.le_refl _)
def cc2C (xs ys : List CV) : Nat → List CV
  | 0 => [] | 1 => xs | _ => xs ++ ys
set_option maxRecDepth 100000 in
set_option maxHeartbeats 4000000 in
theorem Concat2C (W : World) (g : Nat) (A1 A2 : Option Addr) (xs ys : List CV) (c1 c2 : Nat) (hg : W.heap[g]? = some (.cells #[.slice A1 xs.length c1, .slice A2 ys.length c2] 62 (0, 0)))
    (r1 : Rd W A1 xs.length 6 (cflat xs)) (r2 : Rd W A2 ys.length 6 (cflat ys)) (hx : xs.length + ys.length ≤ 4398046511104) (h1 : xs.length ≤ c1) (h2 : ys.length ≤ c2) :
    Calls Try.prog 43 #[.slice (some ⟨g, 0, none⟩) 2 2] W fun e w' => ∃ v, e = .returned v ∧ w'.ownsRow W.heap.size 54 6 v (xs ++ ys).length (cflat (xs ++ ys)) ∧ Below W.heap.size W w' := by
  have R1 := Lib.hid r1
  have R2 := Lib.hid r2
  have c0 : W.cell? ⟨g, 0, none⟩ = some (.slice A1 xs.length c1) := by simp [World.cell?, hg]
  have c1' : W.cell? ⟨g, 1, none⟩ = some (.slice A2 ys.length c2) := by simp [World.cell?, hg]
  have C0 := Lib.hid c0
  have C1 := Lib.hid c1'
  clear r1 r2 hg c0 c1'
  go_enter Try.func43, Try.ntmps43
  go_wp2_with fail
  go_loopw [3, 11] (fun n i wr => ∃ k : Nat, k ≤ 2 ∧ i = .int .i64 k ∧ n = .int .i64 (cc2C xs ys k).length ∧ wr = W) (fun _ i _ => 2 - (intOf i).toNat)
  case atStart => exact ⟨0, by omega, rfl, rfl, rfl⟩
  case round =>
    obtain ⟨k, hk, rfl, rfl, rfl⟩ := hrel
    have h3 : k = 0 ∨ k = 1 ∨ k = 2 := by omega
    rcases h3 with rfl | rfl | rfl
    · have q0 := C0.out
      show Code.wp _ _ _ _ _
      simp only [show (cc2C xs ys 0).length = 0 from rfl]
      have hw : wrap64 (xs.length : Int) = xs.length := by unfold wrap64; omega
      have hng : ¬ (xs.length : Int) < 0 := by omega
      go_wp2_with fail
      go_roundw
      case rel => exact ⟨1, by omega, by go_num, rfl, trivial⟩
      case measure => simp [intOf]
    · have q0 := C1.out
      simp only [show (cc2C xs ys 1).length = xs.length from rfl]
      have hw : wrap64 ((xs.length : Int) + ys.length) = xs.length + ys.length := by unfold wrap64; omega
      have hng : ¬ ((xs.length : Int) + ys.length) < 0 := by omega
      go_wp2_with fail
      go_roundw
      case rel => exact ⟨2, by omega, by go_num, by show _ = Value.int .i64 (((xs ++ ys).length : Nat) : Int); simp, trivial⟩
      case measure => simp [intOf]
    · simp only [show (cc2C xs ys 2).length = (xs ++ ys).length from rfl]
      obtain ⟨nn, hnn⟩ : ∃ nn, (xs ++ ys).length = nn := ⟨_, rfl⟩
      rw [hnn]
      have HNN := Lib.hid hnn
      have hn1 : nn ≤ 4398046511104 := by rw [← hnn]; simp; omega
      obtain ⟨wl, hwl⟩ : ∃ wl, wl = wr := ⟨wr, rfl⟩
      have HWL := Lib.hid hwl
      rw [← hwl] at R1 R2 C0 C1 ⊢
      clear hwl
      have HGR := Lib.hid (Grow_nilC wl nn hn1)
      go_wp2_with fail
      refine HGR.out.mono ?_
      rintro e w2 ⟨v, rfl, hv, hb2⟩
      have HI2 : Hid (RowR w2 wl.heap.size 54 6 v (cc2C xs ys 0).length (cflat (cc2C xs ys 0)) nn ∧ Below wl.heap.size wl w2) := Lib.hid ⟨hv, hb2⟩
      clear hv hb2 HGR
      go_wp2_with fail
      go_loopw [6, 27] (fun v i wr => ∃ k : Nat, k ≤ 2 ∧ i = .int .i64 k ∧ Hid (RowR wr wl.heap.size 54 6 v (cc2C xs ys k).length (cflat (cc2C xs ys k)) nn ∧ Below wl.heap.size wl wr)) (fun _ i _ => 2 - (intOf i).toNat)
      case atStart => exact ⟨0, by omega, rfl, HI2⟩
      case round =>
        obtain ⟨k, hk, rfl, hI⟩ := hrel
        obtain ⟨hown, hbr⟩ := hI.out
        obtain ⟨i0, hi0, hz0, hz1, hz2⟩ := info_parts info_call
        have h3 : k = 0 ∨ k = 1 ∨ k = 2 := by omega
        rcases h3 with rfl | rfl | rfl
        · have q0 := bkeep hbr C0.out
          obtain ⟨v', W', hrun, hown', hgr⟩ := app_room (P := Try.prog) (t := 62) (ty := 62) (c := c1) Try.underlying62 hi0 hz0 hz1 hz2 rfl (by decide) hown (R1.out.below hbr) (cflat_one xs) (by rw [← HNN.out]; simp [cc2C]) hbr.size
          have hb' : Below wl.heap.size wl W' := hbr.grown hgr hbr.size fun k e => (World.ownsRow.lt hown.own k e).1
          have HI : Hid (RowR W' wl.heap.size 54 6 v' (cc2C xs ys 1).length (cflat (cc2C xs ys 1)) nn ∧ Below wl.heap.size wl W') := Lib.hid ⟨by simpa [cc2C, cflat] using hown', hb'⟩
          clear hown hown' hgr hb' hI
          go_wp2_with (at_builtin; refine Lib.wpList_append_run _ rfl (.tmp 31) (.tmp 32) _ _ rfl _ _ rfl rfl _ _ hrun ?_)
          go_roundw
          case rel => exact ⟨1, by omega, by go_num, HI⟩
          case measure => simp [intOf]
        · have q0 := bkeep hbr C1.out
          obtain ⟨v', W', hrun, hown', hgr⟩ := app_room (P := Try.prog) (t := 62) (ty := 62) (c := c2) Try.underlying62 hi0 hz0 hz1 hz2 rfl (by decide) hown (R2.out.below hbr) (cflat_one ys) (by rw [← HNN.out]; simp [cc2C]) hbr.size
          have hb' : Below wl.heap.size wl W' := hbr.grown hgr hbr.size fun k e => (World.ownsRow.lt hown.own k e).1
          have HI : Hid (RowR W' wl.heap.size 54 6 v' (cc2C xs ys 2).length (cflat (cc2C xs ys 2)) nn ∧ Below wl.heap.size wl W') := Lib.hid ⟨by simpa [cc2C, cflat] using hown', hb'⟩
          clear hown hown' hgr hb' hI
          go_wp2_with (at_builtin; refine Lib.wpList_append_run _ rfl (.tmp 31) (.tmp 32) _ _ rfl _ _ rfl rfl _ _ hrun ?_)
          go_roundw
          case rel => exact ⟨2, by omega, by go_num, HI⟩
          case measure => simp [intOf]
        · clear hi0 hz0 hz1 hz2
          go_wp2_with fail
          go_ret
          exact ⟨_, rfl, by rw [← HWL.out]; exact hown.own, by rw [← HWL.out]; exact hbr⟩
end Go.Proofs.Ytidojcogojchpaa

/- mem's laws: MemChanges' first closure; package slices: IsSorted, Index, Contains of ints. -/
set_option linter.unusedVariables false
set_option linter.unusedSimpArgs false
namespace Go.Proofs.Ytidojcogojchpaa
open Go.RowKit Go.Shelf

/-- What one call makes of a memory: Map, Unmap, Protect, Write, Poke, or nothing. -/
noncomputable def doA (A : PM) (x : CV) : PM :=
  if x.kind = 0 then mapA A x.page x.n x.rt else if x.kind = 1 then unmA A x.page x.n else if x.kind = 2 then proA A x.page x.n x.rt
  else if x.kind = 7 then wrM A 2 x.at_ x.bs else if x.kind = 8 then wrM A 0 x.at_ x.bs else A
/-- A memory behind a variable that closures have. R: blocks that it leaves alone. -/
structure VarM (R : Nat → Prop) (B : Nat) (W : World) (vb b : Nat) (A : PM) : Prop where
  ex : ∃ S, Mm W b S A ∧ (∀ k, S.reads A.ks b k → B ≤ k) ∧ ∀ k, R k → ¬ S.foot b k
  var : W.heap[vb]? = some (.cells #[.pointer (some ⟨b, 0, none⟩)] 25 (0, 0))
  rv : R vb
  lt : ∀ k, R k → k < W.heap.size
theorem VarM.m {R : Nat → Prop} {B : Nat} {W : World} {vb b : Nat} {A : PM} (h : VarM R B W vb b A) : M1 B W b A := by
  obtain ⟨S, h1, h2, _⟩ := h.ex
  exact ⟨S, h1, h2⟩
theorem VarM.below {R : Nat → Prop} {B : Nat} {W W' : World} {vb b : Nat} {A : PM} (h : VarM R B W vb b A) (hb : Below W.heap.size W W') : VarM R B W' vb b A := by
  obtain ⟨S, h1, h2, h3⟩ := h.ex
  exact ⟨⟨S, h1.below hb, h2, h3⟩, belowBox hb h.var, h.rv, fun k hk => Nat.lt_of_lt_of_le (h.lt k hk) hb.size⟩
/-- What a call has done. -/
structure VarE (R : Nat → Prop) (B : Nat) (W : World) (vb b : Nat) (A' : PM) (w' : World) : Prop where
  v : VarM R B w' vb b A'
  upd : Upd (fun k => ¬ R k) W w'
  below : Below B W w'
theorem VarM.did {R : Nat → Prop} {B : Nat} {W W' : World} {vb b : Nat} {A A' : PM} {S : MS} (h : VarM R B W vb b A) (h1 : Mm W b S A) (h2 : ∀ k, S.reads A.ks b k → B ≤ k) (h3 : ∀ k, R k → ¬ S.foot b k) (d : Did W b S A A' W') : VarE R B W vb b A' W' := by
  obtain ⟨m1, b1⟩ := M1.of_did h1 h2 d
  obtain ⟨S', mm, g⟩ := d.ex
  have hu : Upd (fun k => ¬ R k) W W' := g.upd.mono fun k hf hr => h3 k hr hf
  refine ⟨⟨⟨S', mm, fun k hk => ?_, fun k hr hf => ?_⟩, ?_, h.rv, fun k hk => Nat.lt_of_lt_of_le (h.lt k hk) hu.size⟩, hu, b1⟩
  · have hs := h.m.size
    rcases g.reads k hk with e | e
    · exact h2 k e
    · omega
  · rcases g.foot k hf with e | e
    · exact h3 k hr e
    · have := h.lt k hr; omega
  · rw [hu.block vb (h.lt vb h.rv) (fun hf => hf h.rv)]; exact h.var
section
variable {R : Nat → Prop} {B : Nat} {W : World} {vb b : Nat} {A : PM}
theorem VarM.Map (h : VarM R B W vb b A) (f n r : Int) :
    Calls Try.prog 33 #[.pointer (some ⟨b, 0, none⟩), .int .i64 f, .int .i64 n, .int .i64 r] W fun e w' => e = .returned (.int .i64 (mapR A f n r)) ∧ VarE R B W vb b (mapA A f n r) w' := by
  obtain ⟨S, h1, h2, h3⟩ := h.ex
  exact (Map_all W b S A f n r h1).mono fun e w' ⟨a, d⟩ => ⟨a, h.did h1 h2 h3 d⟩
theorem VarM.Unmap (h : VarM R B W vb b A) (f n : Int) :
    Calls Try.prog 34 #[.pointer (some ⟨b, 0, none⟩), .int .i64 f, .int .i64 n] W fun e w' => e = .returned (.int .i64 (unmR A f n)) ∧ VarE R B W vb b (unmA A f n) w' := by
  obtain ⟨S, h1, h2, h3⟩ := h.ex
  exact (Unmap_all W b S A f n h1).mono fun e w' ⟨a, d⟩ => ⟨a, h.did h1 h2 h3 d⟩
theorem VarM.Protect (h : VarM R B W vb b A) (f n r : Int) :
    Calls Try.prog 30 #[.pointer (some ⟨b, 0, none⟩), .int .i64 f, .int .i64 n, .int .i64 r] W fun e w' => e = .returned (.int .i64 (proR A f n r)) ∧ VarE R B W vb b (proA A f n r) w' := by
  obtain ⟨S, h1, h2, h3⟩ := h.ex
  exact (Protect_all W b S A f n r h1).mono fun e w' ⟨a, d⟩ => ⟨a, h.did h1 h2 h3 d⟩
theorem VarM.Write0 (h : VarM R B W vb b A) (at_ : Int) (bs : List Int) (Ad : Option Addr) (cap : Nat) (ha : 0 ≤ at_ ∧ at_ < 4294967296) (hcap : bs.length ≤ cap) (hrd : Rd W Ad bs.length 1 (nums .u8 bs)) (hbs : ∀ x ∈ bs, 0 ≤ x ∧ x < 256) (hA : 0 < bs.length → ∀ ad, Ad = some ad → ad.block < B) :
    Calls Try.prog 23 #[.pointer (some ⟨b, 0, none⟩), .int .u32 at_, .slice Ad bs.length cap] W fun e w' => e = .returned (.tuple #[.int .u32 (wrA A 2 at_ bs.length), .bool (wrB A 2 at_ bs.length)]) ∧ VarE R B W vb b (wrM A 2 at_ bs) w' := by
  have hs := h.m.size
  obtain ⟨S, h1, h2, h3⟩ := h.ex
  exact (Write_any W b S A at_ bs Ad cap h1.mem ha hcap hrd hbs fun h0 ad e => ⟨by have := hA h0 ad e; omega, fun hf => by have := h2 _ (h1.mem.foot_reads _ hf); have := hA h0 ad e; omega⟩).mono fun e w' hw => by
    obtain ⟨e1, d⟩ := Did.of_write hw h1.bp
    exact ⟨e1, h.did h1 h2 h3 d⟩
theorem VarM.Poke0 (h : VarM R B W vb b A) (at_ : Int) (bs : List Int) (Ad : Option Addr) (cap : Nat) (ha : 0 ≤ at_ ∧ at_ < 4294967296) (hcap : bs.length ≤ cap) (hrd : Rd W Ad bs.length 1 (nums .u8 bs)) (hbs : ∀ x ∈ bs, 0 ≤ x ∧ x < 256) (hA : 0 < bs.length → ∀ ad, Ad = some ad → ad.block < B) :
    Calls Try.prog 35 #[.pointer (some ⟨b, 0, none⟩), .int .u32 at_, .slice Ad bs.length cap] W fun e w' => e = .returned (.tuple #[.int .u32 (wrA A 0 at_ bs.length), .bool (wrB A 0 at_ bs.length)]) ∧ VarE R B W vb b (wrM A 0 at_ bs) w' := by
  have hs := h.m.size
  obtain ⟨S, h1, h2, h3⟩ := h.ex
  exact (Poke_any W b S A at_ bs Ad cap h1.mem ha hcap hrd hbs fun h0 ad e => ⟨by have := hA h0 ad e; omega, fun hf => by have := h2 _ (h1.mem.foot_reads _ hf); have := hA h0 ad e; omega⟩).mono fun e w' hw => by
    obtain ⟨e1, d⟩ := Did.of_write hw h1.bp
    exact ⟨e1, h.did h1 h2 h3 d⟩
theorem VarM.Mark (h : VarM R B W vb b A) :
    Calls Try.prog 45 #[.pointer (some ⟨b, 0, none⟩)] W fun e w' => e = .returned (.tuple #[]) ∧ VarE R B W vb b { A with cg := [] } w' := by
  obtain ⟨S, h1, h2, h3⟩ := h.ex
  refine (Mark_any W b S A h1.mem).mono ?_
  rintro e w' ⟨rfl, m1, g1⟩
  exact ⟨rfl, h.did h1 h2 h3 ⟨S, ⟨m1, h1.bp⟩, g1⟩⟩
end
set_option maxRecDepth 100000 in
set_option maxHeartbeats 4000000 in
theorem does1_any (R : Nat → Prop) (B : Nat) (W : World) (vb b : Nat) (A : PM) (x : CV) (h : VarM R B W vb b A) (hx : COk W x) (hA : 0 < x.bs.length → ∀ ad, x.A = some ad → ad.block < B) :
    Calls Try.prog 44 #[.agg x.cells.toArray, .pointer (some ⟨vb, 0, none⟩)] W fun e w' => e = .returned (.tuple #[]) ∧ VarE R B W vb b (doA A x) w' := by
  obtain ⟨kind, pg, n, rt, a, Ab, cb, bs⟩ := x
  have hs := h.m.size
  obtain ⟨W0, hW0⟩ : ∃ W0, W.alloc (.cells #[.int .i64 kind, .int .i64 pg, .int .i64 n, .int .i64 rt, .int .u32 a, .slice Ab bs.length cb] 54) = W0 := ⟨_, rfl⟩
  have hb0 : Below W.heap.size W W0 := by rw [← hW0]; exact balloc _ _
  have h0 : W0.heap[W.heap.size]? = some (.cells #[.int .i64 kind, .int .i64 pg, .int .i64 n, .int .i64 rt, .int .u32 a, .slice Ab bs.length cb] 54 (0, 0)) := by rw [← hW0]; exact heap_alloc_new _ _
  have hv0 := belowBox hb0 h.var
  have y0 : W0.cell? ⟨W.heap.size, 0, none⟩ = some (.int .i64 kind) := by simp [World.cell?, h0]
  have y1 : W0.cell? ⟨W.heap.size, 1, none⟩ = some (.int .i64 pg) := by simp [World.cell?, h0]
  have y2 : W0.cell? ⟨W.heap.size, 2, none⟩ = some (.int .i64 n) := by simp [World.cell?, h0]
  have y3 : W0.cell? ⟨W.heap.size, 3, none⟩ = some (.int .i64 rt) := by simp [World.cell?, h0]
  have y4 : W0.cell? ⟨W.heap.size, 4, none⟩ = some (.int .u32 a) := by simp [World.cell?, h0]
  have y5 : W0.cell? ⟨W.heap.size, 5, none⟩ = some (.slice Ab bs.length cb) := by simp [World.cell?, h0]
  have v0 : W0.cell? ⟨vb, 0, none⟩ = some (.pointer (some ⟨b, 0, none⟩)) := by simp [World.cell?, hv0]
  have HM := Lib.hid (h.below hb0)
  have HB := Lib.hid (hb0.mono hs)
  have HV := Lib.hid hv0
  have HLT := Lib.hid h.lt
  have HUB := Lib.hid (Upd.any hb0 (F := fun k => ¬ R k))
  have HX := Lib.hid (hx.below hb0)
  have HAD := Lib.hid hA
  clear h0 hv0 hb0 h hx hA
  have fin : ∀ (A' : PM) (w' : World), VarE R B W0 vb b A' w' → VarE R B W vb b A' w' := fun A' w' hv => ⟨hv.v, HUB.out.trans hv.upd fun i h => .inl h, HB.out.trans hv.below⟩
  have HF := Lib.hid fin
  clear fin
  simp only [CV.cells]
  go_enter Try.func44, Try.ntmps44
  by_cases k0 : kind = 0
  · subst k0
    go_wp2_with fail
    refine (HM.out.Map pg n rt).mono ?_
    rintro e w2 ⟨rfl, m2⟩
    have HR := Lib.hid (HF.out _ _ m2)
    clear m2
    go_wp2_with fail
    go_end0
    exact ⟨rfl, HR.out⟩
  by_cases k1 : kind = 1
  · subst k1
    go_wp2_with fail
    refine (HM.out.Unmap pg n).mono ?_
    rintro e w2 ⟨rfl, m2⟩
    have HR := Lib.hid (HF.out _ _ m2)
    clear m2
    go_wp2_with fail
    go_end0
    exact ⟨rfl, HR.out⟩
  by_cases k2 : kind = 2
  · subst k2
    go_wp2_with fail
    refine (HM.out.Protect pg n rt).mono ?_
    rintro e w2 ⟨rfl, m2⟩
    have HR := Lib.hid (HF.out _ _ m2)
    clear m2
    go_wp2_with fail
    go_end0
    exact ⟨rfl, HR.out⟩
  by_cases k7 : kind = 7
  · subst k7
    go_wp2_with fail
    refine (HM.out.Write0 a bs Ab cb HX.out.at_ HX.out.bs.cap HX.out.bs.rd HX.out.bs.u8 HAD.out).mono ?_
    rintro e w2 ⟨rfl, m2⟩
    have HR := Lib.hid (HF.out _ _ m2)
    clear m2
    go_wp2_with fail
    go_end0
    exact ⟨rfl, HR.out⟩
  by_cases k8 : kind = 8
  · subst k8
    go_wp2_with fail
    refine (HM.out.Poke0 a bs Ab cb HX.out.at_ HX.out.bs.cap HX.out.bs.rd HX.out.bs.u8 HAD.out).mono ?_
    rintro e w2 ⟨rfl, m2⟩
    have HR := Lib.hid (HF.out _ _ m2)
    clear m2
    go_wp2_with fail
    go_end0
    exact ⟨rfl, HR.out⟩
  have HE : Hid (doA A ⟨kind, pg, n, rt, a, Ab, cb, bs⟩ = A) := Lib.hid (by unfold doA; rw [if_neg k0, if_neg k1, if_neg k2, if_neg k7, if_neg k8])
  have d0 : (kind == 0) = false := by simpa using k0
  have d1 : (kind == 1) = false := by simpa using k1
  have d2 : (kind == 2) = false := by simpa using k2
  have d7 : (kind == 7) = false := by simpa using k7
  have d8 : (kind == 8) = false := by simpa using k8
  go_wp2_with fail
  go_end0
  rw [HE.out]
  exact ⟨rfl, HF.out _ _ ⟨HM.out, Upd.refl _ _, Below.refl _ _⟩⟩
end Go.Proofs.Ytidojcogojchpaa

/- package slices: IsSorted, Index, Contains of ints. -/
set_option linter.unusedVariables false
set_option linter.unusedSimpArgs false
namespace Go.Proofs.Ytidojcogojchpaa
open Go.RowKit Go.Shelf

set_option maxRecDepth 100000 in
theorem isNaN_int (W : World) (x : Int) : Calls Try.prog 117 #[.int .i64 x] W fun e w' => e = .returned (.bool false) ∧ W = w' := by
  have h : (x != x) = false := by simp
  go_enter Try.func117, Try.ntmps117
  go_wp2
  go_ret
  exact ⟨rfl, rfl⟩
set_option maxRecDepth 100000 in
theorem less_int (W : World) (x y : Int) : Calls Try.prog 91 #[.int .i64 x, .int .i64 y] W fun e w' => e = .returned (.bool (decide (x < y))) ∧ W = w' := by
  have H := fun z => Lib.hid (isNaN_int W z)
  go_enter Try.func91, Try.ntmps91
  go_wp2_with (go_at_call 117; refine (isNaN_int _ _).mono ?_; rintro e w' ⟨rfl, rfl⟩)
  all_goals
    go_ret
    refine ⟨?_, rfl⟩
    simp
set_option maxRecDepth 100000 in
set_option maxHeartbeats 2000000 in
theorem IsSorted_up (W : World) (A : Option Addr) (c : Nat) (xs : List Int) (h : Rd W A xs.length 1 (nums .i64 xs)) (hu : Up xs) :
    Calls Try.prog 51 #[.slice A xs.length c] W fun e w' => e = .returned (.bool true) ∧ Below W.heap.size W w' := by
  have hle := h.le
  have H := Lib.hid h
  have HU := Lib.hid hu
  have w0 : IntKind.i64.wrap ((xs.length : Int) - 1) = (xs.length : Int) - 1 := IntWalk.i64_in _ (by omega)
  clear h hu
  go_enter Try.func51, Try.ntmps51
  go_wp2_with fail
  go_loopw [3] (fun i wr => ∃ k : Nat, (k : Int) ≤ xs.length ∧ i = .int .i64 ((k : Int) - 1) ∧ Hid (Below W.heap.size W wr)) (fun i _ => (intOf i + 1).toNat)
  case atStart => exact ⟨xs.length, by omega, rfl, Lib.hid (Below.refl _ _)⟩
  case round =>
    obtain ⟨k, hk, rfl, hI⟩ := hrel
    by_cases hlt : 1 < k
    · obtain ⟨j, rfl⟩ : ∃ j, k = j + 2 := ⟨k - 2, by omega⟩
      obtain ⟨ad, rfl, x1⟩ := RdI.at (H.out.below hI.out) (j + 1) (by omega)
      obtain ⟨ad', e', x0⟩ := RdI.at (H.out.below hI.out) j (by omega)
      cases e'
      have hlt2 : gi xs j < gi xs (j + 1) := by
        have := List.pairwise_iff_getElem.1 HU.out j (j + 1) (by omega) (by omega) (by omega)
        rw [gi_get xs j (by omega), gi_get xs (j + 1) (by omega)]; exact this
      obtain ⟨a, ha⟩ : ∃ a, gi xs j = a := ⟨_, rfl⟩
      obtain ⟨b, hb⟩ : ∃ b, gi xs (j + 1) = b := ⟨_, rfl⟩
      rw [ha] at x0 hlt2
      rw [hb] at x1 hlt2
      obtain ⟨wd, hwd⟩ : ∃ wd, wr.drew = wd := ⟨_, rfl⟩
      have q0 : ∀ q : Just wd, q.W.cell? (ad.add j) = some (.int .i64 a) := fun q => Just.cell (by rw [← hwd]; exact x0) q
      have q1 : ∀ q : Just wd, q.W.cell? (ad.add (j + 1)) = some (.int .i64 b) := fun q => Just.cell (by rw [← hwd]; exact x1) q
      have HBD := Lib.hid (show Below W.heap.size W wd by rw [← hwd]; exact bdrewN hI.out 1)
      have HL := Lib.hid (less_int wd b a)
      rw [decide_eq_false (by omega : ¬ b < a)] at HL
      have e1 : ((j + 2 : Nat) : Int) - 1 = ((j + 1 : Nat) : Int) := by omega
      rw [e1]
      have w1 : IntKind.i64.wrap (((j + 1 : Nat) : Int) - 1) = (j : Int) := by rw [IntWalk.i64_in _ (by omega)]; omega
      have w2 : wrap64 (((j + 1 : Nat) : Int) - 1) = (j : Int) := by rw [← IntWalk.i64_left]; exact w1
      obtain ⟨m, hm⟩ : ∃ m, j + 1 = m := ⟨_, rfl⟩
      rw [hm] at q1 w1 w2 e1 ⊢
      have hm0 : (m : Int) > 0 := by omega
      have hmx : m < xs.length := by omega
      have hjx : j < xs.length := by omega
      clear x0 x1 hlt2 ha hb hI
      go_wp2_with fail
      refine region_tail 9 hwd (by kernel_rfl) (by kernel_rfl) ?_
      simp only [List.take_succ_cons, List.take_zero, List.drop_succ_cons, List.drop_zero]
      repeat (go_big_quiet_step (fail))
      refine wpQuiet_nil ?_
      go_wp2_with fail
      refine HL.out.mono ?_
      rintro e w3 ⟨rfl, rfl⟩
      go_wp2_with fail
      go_roundw
      case rel => exact ⟨j + 1, by omega, by rw [hm]; congr 1; omega, HBD⟩
      case measure => simp [intOf]; omega
    · have hk0 : ¬ ((k : Int) - 1 > 0) := by omega
      go_wp2_with fail
      go_ret
      exact ⟨rfl, hI.out⟩
/-- How Index ends: at a place where the number stands, or at -1. -/
structure IxE (xs : List Int) (y : Int) (W : World) (e : Ending) (w' : World) : Prop where
  ex : ∃ r : Int, e = .returned (.int .i64 r) ∧ (0 ≤ r ↔ y ∈ xs)
  below : Below W.heap.size W w'
set_option maxRecDepth 100000 in
set_option maxHeartbeats 2000000 in
theorem Index_ints (W : World) (A : Option Addr) (c : Nat) (xs : List Int) (y : Int) (h : Rd W A xs.length 1 (nums .i64 xs)) :
    Calls Try.prog 90 #[.slice A xs.length c, .int .i64 y] W fun e w' => IxE xs y W e w' := by
  have hle := h.le
  have H := Lib.hid h
  clear h
  go_enter Try.func90, Try.ntmps90
  go_wp2_with fail
  go_loopw [8] (fun i wr => ∃ k : Nat, k ≤ xs.length ∧ i = .int .i64 k ∧ Hid (Below W.heap.size W wr ∧ ∀ j, j < k → gi xs j ≠ y)) (fun i _ => xs.length - (intOf i).toNat)
  case atStart => exact ⟨0, Nat.zero_le _, rfl, Lib.hid ⟨Below.refl _ _, fun j hj => by omega⟩⟩
  case round =>
    obtain ⟨k, hk, rfl, hI⟩ := hrel
    obtain ⟨hbr, hall⟩ := hI.out
    by_cases hlt : k < xs.length
    · obtain ⟨ad, rfl, x0⟩ := RdI.at (H.out.below hbr) k hlt
      obtain ⟨x, hx⟩ : ∃ x, gi xs k = x := ⟨_, rfl⟩
      rw [hx] at x0
      have HX := Lib.hid hx
      have HA := Lib.hid hall
      have HB := Lib.hid hbr
      have HM := Lib.hid (gi_mem xs k hlt)
      clear hI hbr hall hx
      by_cases hy : y = x
      · have HY := Lib.hid hy
        have he : (y == x) = true := by simp [hy]
        go_wp2_with fail
        go_ret
        refine ⟨⟨_, rfl, ⟨fun _ => ?_, fun _ => by omega⟩⟩, HB.out⟩
        rw [HY.out, ← HX.out]; exact HM.out
      · have HY := Lib.hid hy
        have he : (y == x) = false := by simp [hy]
        go_wp2_with fail
        go_roundw
        case rel => exact ⟨k + 1, by omega, by go_num, Lib.hid ⟨HB.out, fun j hj => by
          by_cases hjk : j = k
          · rw [hjk, HX.out]; exact fun e => HY.out e.symm
          · exact HA.out j (by omega)⟩⟩
        case measure => simp [intOf]; omega
    · obtain rfl : k = xs.length := by omega
      have HA := Lib.hid hall
      have HB := Lib.hid hbr
      clear hI hbr hall
      go_wp2_with fail
      go_ret
      refine ⟨⟨_, rfl, ⟨fun h => absurd h (by omega), fun hm => ?_⟩⟩, HB.out⟩
      obtain ⟨j, hj, e⟩ := List.getElem_of_mem hm
      exact absurd (by rw [gi_get xs j hj]; exact e) (HA.out j hj)
set_option maxRecDepth 100000 in
theorem Contains_ints (W : World) (A : Option Addr) (c : Nat) (xs : List Int) (y : Int) (h : Rd W A xs.length 1 (nums .i64 xs)) :
    Calls Try.prog 50 #[.slice A xs.length c, .int .i64 y] W fun e w' => e = .returned (.bool (decide (y ∈ xs))) ∧ Below W.heap.size W w' := by
  have HI := Lib.hid (Index_ints W A c xs y h)
  clear h
  go_enter Try.func50, Try.ntmps50
  go_wp2_with fail
  refine HI.out.mono ?_
  rintro e w1 ⟨⟨r, rfl, hr⟩, hb⟩
  have HR := Lib.hid hr
  have HB := Lib.hid hb
  clear hr hb
  go_wp2_with fail
  go_ret
  refine ⟨?_, HB.out⟩
  have e : decide (r ≥ 0) = decide (y ∈ xs) := decide_eq_decide.2 HR.out
  first
    | exact congrArg (fun z => Ending.returned (Value.bool z)) e
    | (simp; exact e)
/-- The second closure's own: is the page's number among the changed ones? vb: the variable's cell. -/
theorem has_any (W : World) (vb : Nat) (A : Option Addr) (c : Nat) (xs : List Int) (n r : Int) (vB : Value) (hv : W.heap[vb]? = some (.cells #[.slice A xs.length c] 59 (0, 0))) (h : Rd W A xs.length 1 (nums .i64 xs)) :
    Calls Try.prog 49 #[.agg #[.int .i64 n, .int .i64 r, vB], .pointer (some ⟨vb, 0, none⟩)] W fun e w' => e = .returned (.bool (decide (n ∈ xs))) ∧ Below W.heap.size W w' := by
  obtain ⟨W0, hW0⟩ : ∃ W0, W.alloc (.cells #[.int .i64 n, .int .i64 r, vB] 79) = W0 := ⟨_, rfl⟩
  have hb0 : Below W.heap.size W W0 := by rw [← hW0]; exact balloc _ _
  have h0 : W0.heap[W.heap.size]? = some (.cells #[.int .i64 n, .int .i64 r, vB] 79 (0, 0)) := by rw [← hW0]; exact heap_alloc_new _ _
  have y0 : W0.cell? ⟨W.heap.size, 0, none⟩ = some (.int .i64 n) := by simp [World.cell?, h0]
  have v0 : W0.cell? ⟨vb, 0, none⟩ = some (.slice A xs.length c) := by simp [World.cell?, belowBox hb0 hv]
  have HC := Lib.hid (Contains_ints W0 A c xs n (h.below hb0))
  have HB := Lib.hid hb0
  clear h0 hv h hb0
  go_enter Try.func49, Try.ntmps49
  go_wp2_with fail
  refine HC.out.mono ?_
  rintro e w1 ⟨rfl, hb⟩
  have HB1 := Lib.hid (bvia HB.out hb (Nat.le_refl _))
  clear hb
  go_wp2_with fail
  go_ret
  exact ⟨rfl, HB1.out⟩
end Go.Proofs.Ytidojcogojchpaa

/- package slices: IndexFunc of pages, at MemChanges' closure. -/
set_option linter.unusedVariables false
set_option linter.unusedSimpArgs false
namespace Go.Proofs.Ytidojcogojchpaa
open Go.RowKit Go.Shelf

abbrev hasF (vb : Nat) : Value := .func (.func 49) #[] #[.pointer (some ⟨vb, 0, none⟩)]
/-- The variable that the closure has: the changed numbers. -/
structure VarC (W : World) (vb : Nat) (xs : List Int) : Prop where
  ex : ∃ A c, W.heap[vb]? = some (.cells #[.slice A xs.length c] 59 (0, 0)) ∧ Rd W A xs.length 1 (nums .i64 xs)
theorem VarC.below {W W' : World} {vb : Nat} {xs : List Int} (h : VarC W vb xs) (hb : Below W.heap.size W W') : VarC W' vb xs := by
  obtain ⟨A, c, h1, h2⟩ := h.ex
  exact ⟨A, c, belowBox hb h1, h2.below hb⟩
theorem VarC.has {W : World} {vb : Nat} {xs : List Int} (h : VarC W vb xs) (n r : Int) (vB : Value) :
    Calls Try.prog 49 #[.agg #[.int .i64 n, .int .i64 r, vB], .pointer (some ⟨vb, 0, none⟩)] W fun e w' => e = .returned (.bool (decide (n ∈ xs))) ∧ Below W.heap.size W w' := by
  obtain ⟨A, c, h1, h2⟩ := h.ex
  exact has_any W vb A c xs n r vB h1 h2
/-- How IndexFunc ends. -/
structure IfE (ps : List PV) (xs : List Int) (W : World) (e : Ending) (w' : World) : Prop where
  ex : (e = .returned (.int .i64 (-1)) ∧ ∀ j, j < ps.length → (gp ps j).n ∉ xs) ∨ ∃ k : Nat, e = .returned (.int .i64 k) ∧ k < ps.length ∧ (gp ps k).n ∈ xs ∧ ∀ j, j < k → (gp ps j).n ∉ xs
  below : Below W.heap.size W w'
set_option maxRecDepth 100000 in
set_option maxHeartbeats 4000000 in
theorem IndexFunc_any (W : World) (A : Option Addr) (c : Nat) (ps : List PV) (vb : Nat) (xs : List Int) (h : Rd W A ps.length 3 (flat ps)) (hv : VarC W vb xs) :
    Calls Try.prog 89 #[.slice A ps.length c, hasF vb] W fun e w' => IfE ps xs W e w' := by
  have hle := h.le
  have H := Lib.hid h
  have HV := Lib.hid hv
  clear h hv
  go_enter Try.func89, Try.ntmps89
  go_wp2_with fail
  go_loopw [8] (fun i wr => ∃ k : Nat, k ≤ ps.length ∧ i = .int .i64 k ∧ Hid (Below W.heap.size W wr ∧ ∀ j, j < k → (gp ps j).n ∉ xs)) (fun i _ => ps.length - (intOf i).toNat)
  case atStart => exact ⟨0, Nat.zero_le _, rfl, Lib.hid ⟨Below.refl _ _, fun j hj => by omega⟩⟩
  case round =>
    obtain ⟨k, hk, rfl, hI⟩ := hrel
    obtain ⟨hbr, hall⟩ := hI.out
    by_cases hlt : k < ps.length
    · obtain ⟨ad, rfl, x0, x1, x2⟩ := (H.out.below hbr).at3 k hlt
      obtain ⟨P, hP⟩ : ∃ P, gp ps k = P := ⟨_, rfl⟩
      rw [hP] at x0 x1 x2
      obtain ⟨pn, pr, pA, pc, pb⟩ := P
      have HP := Lib.hid (congrArg PV.n hP)
      have HA := Lib.hid hall
      have HB := Lib.hid hbr
      have HC := Lib.hid ((HV.out.below hbr).has pn pr (.slice pA pb.length pc))
      clear hI hbr hall hP
      go_wp2_with fail
      refine HC.out.mono ?_
      rintro e w2 ⟨rfl, hb2⟩
      have HB2 := Lib.hid (bvia HB.out hb2 (Nat.le_refl _))
      clear hb2
      by_cases hm : pn ∈ xs
      · rw [decide_eq_true hm]
        have HM := Lib.hid hm
        clear hm
        go_wp2_with fail
        go_ret
        exact ⟨.inr ⟨k, rfl, hlt, by rw [HP.out]; exact HM.out, HA.out⟩, HB2.out⟩
      · rw [decide_eq_false hm]
        have HM := Lib.hid hm
        clear hm
        go_wp2_with fail
        go_roundw
        case rel => exact ⟨k + 1, by omega, by go_num, Lib.hid ⟨HB2.out, fun j hj => by
          by_cases hjk : j = k
          · rw [hjk, HP.out]; exact HM.out
          · exact HA.out j (by omega)⟩⟩
        case measure => simp [intOf]; omega
    · obtain rfl : k = ps.length := by omega
      have HA := Lib.hid hall
      have HB := Lib.hid hbr
      clear hI hbr hall
      go_wp2_with fail
      go_ret
      exact ⟨.inl ⟨rfl, HA.out⟩, HB.out⟩
end Go.Proofs.Ytidojcogojchpaa

/- package slices: Clone of pages; parts of a slice of pages. -/
set_option linter.unusedVariables false
set_option linter.unusedSimpArgs false
namespace Go.Proofs.Ytidojcogojchpaa
open Go.RowKit Go.Shelf

theorem elem_pg : Try.prog.elem 22 = 79 := by kernel_rfl
theorem size_pg (W : World) : (sizeOf 79).run Try.prog W = .ok 3 W := by
  obtain ⟨i0, e0, e1, e2, e3⟩ := info_parts info_pg
  simp [sizeOf, typeInfo, e0, e2]
theorem slice_headP (A : Option Addr) (n cap h : Nat) (h1 : h ≤ cap) (W : World) :
    (Instr.sliceAt 22 (.slice A n cap) none (some (.int .i64 h)) none).run Try.prog W = .ok (.slice A h cap) W := by
  have ht : Try.prog.underlying 22 = some (.slice (Try.prog.elem 22)) := by rw [elem_pg]; exact Try.underlying22
  rw [run_sliceAt_slice _ _ _ _ _ _ ht]
  rw [run_slice_h _ _ _ _ _ ht _ _ (by omega) (by omega), elem_pg, size_pg]
  simp [Result.andThen, sliced]
  intro _
  cases A <;> simp [Addr.add]
theorem slice_tailP (g n cap l : Nat) (h1 : l ≤ n) (h2 : l < cap) (W : World) :
    (Instr.sliceAt 22 (.slice (some ⟨g, 0, none⟩) n cap) (some (.int .i64 l)) none none).run Try.prog W = .ok (.slice (some ⟨g, l * 3, none⟩) (n - l) (cap - l)) W := by
  have ht : Try.prog.underlying 22 = some (.slice (Try.prog.elem 22)) := by rw [elem_pg]; exact Try.underlying22
  rw [run_sliceAt_slice _ _ _ _ _ _ ht]
  rw [run_slice_l _ _ _ _ _ ht _ _ (by omega) (by omega), elem_pg, size_pg]
  have e1 : ¬ (cap = l) := by omega
  have e2 : ((⟨g, 0, none⟩ : Addr).add (l * 3)) = ⟨g, l * 3, none⟩ := by
    unfold Addr.add
    split
    · rename_i h; rw [h]
    · simp
  simp [Result.andThen, sliced, e1, e2]
set_option maxRecDepth 100000 in
set_option maxHeartbeats 2000000 in
theorem Clone_pages (W : World) (B : Nat) (v : Value) (ps : List PV) (h : W.ownsRow B 79 3 v ps.length (flat ps)) (hl : ps.length ≤ 100000) :
    Calls Try.prog 48 #[v] W fun e w' => ∃ v', e = .returned v' ∧ w'.ownsRow W.heap.size 79 3 v' ps.length (flat ps) ∧ Below W.heap.size W w' := by
  have hown0 := h
  rcases h.2 with ⟨rfl, h0⟩ | ⟨g, cap, cur, rfl, hb, hg, hn, hm, hs, ht⟩
  · have hps : ps = [] := List.length_eq_zero_iff.1 h0
    subst hps
    have hnil := fun (W : World) => Lib.run_eql_slice_nil (P := Try.prog) W 22 79 none 0 0 0 0 Try.underlying22
    go_enter Try.func48, Try.ntmps48
    go_wp2
    go_ret
    exact ⟨_, rfl, World.ownsRow_nil _ _ _ _, Below.refl _ _⟩
  · obtain ⟨i0, hi0, hz0, hz1, hz2⟩ := info_parts info_pg
    have hrd : Rd W (some ⟨g, 0, none⟩) ps.length 3 (flat ps) := own_rdC hown0
    have hown := World.ownsRow_lit (base := W.heap.size) (e := 79) (size := 3) W #[] 0 (Nat.le_refl _) (by decide) rfl
    have hb1 := balloc W (.cells #[] 79)
    obtain ⟨v', W', hrun, hown', hgr, _⟩ := app_gen (P := Try.prog) (t := 22) (ty := 22) (c := cap) Try.underlying22 hi0 hz0 hz1 hz2 rfl (by decide) hown (hrd.below hb1) (flat_one ps) (by unfold maxLen; omega) (by omega) (by simp)
    have HB : Hid (Below W.heap.size W W') := Lib.hid (hb1.trans ((Upd.of_grown hgr).below (by simp) fun k hk => (hown.lt k hk).1))
    have HO : Hid (W'.ownsRow W.heap.size 79 3 v' ps.length (flat ps)) := Lib.hid (by simpa using hown')
    have hnil := fun (W : World) => Lib.run_eql_slice_nil (P := Try.prog) W 22 79 (some ⟨g, 0, none⟩) ps.length cap 0 0 Try.underlying22
    clear hown0 h hb hg hn hm hs ht hi0 hz0 hz1 hz2 hrd hown hown' hgr hb1
    go_enter Try.func48, Try.ntmps48
    go_wp2_with (at_builtin; refine Lib.wpList_append_run _ rfl (.tmp 5) (.tmp 6) _ _ rfl _ _ rfl rfl _ _ hrun ?_)
    go_ret
    exact ⟨_, rfl, HO.out, HB.out⟩
end Go.Proofs.Ytidojcogojchpaa

/- package slices: DeleteFunc of pages, at MemChanges' closure. -/
set_option linter.unusedVariables false
set_option linter.unusedSimpArgs false
namespace Go.Proofs.Ytidojcogojchpaa
open Go.RowKit Go.Shelf

/-- The pages that stay. -/
def leftP (xs : List Int) (ps : List PV) : List PV := ps.filter fun p => decide (p.n ∉ xs)
/-- The variable lies below the row. -/
structure VarB (B : Nat) (W : World) (vb : Nat) (xs : List Int) : Prop where
  ex : ∃ A c, W.heap[vb]? = some (.cells #[.slice A xs.length c] 59 (0, 0)) ∧ Rd W A xs.length 1 (nums .i64 xs) ∧ ∀ ad, A = some ad → 0 < xs.length → ad.block < B
  lt : vb < B
theorem VarB.c {B : Nat} {W : World} {vb : Nat} {xs : List Int} (h : VarB B W vb xs) : VarC W vb xs := by
  obtain ⟨A, c, h1, h2, _⟩ := h.ex
  exact ⟨A, c, h1, h2⟩
theorem VarB.upd {B : Nat} {W W' : World} {vb : Nat} {xs : List Int} (h : VarB B W vb xs) {F : Nat → Prop} (hu : Upd F W W') (hF : ∀ k, F k → B ≤ k) : VarB B W' vb xs := by
  obtain ⟨A, c, h1, h2, h3⟩ := h.ex
  have hlt := h.lt
  exact ⟨⟨A, c, (hu.block vb (Array.getElem?_eq_some_iff.1 h1).1 fun hf => by have := hF _ hf; omega).trans h1, h2.upd0 hu fun h0 ad e hf => by have := hF _ hf; have := h3 ad e h0; omega, h3⟩, h.lt⟩
theorem VarB.below {B : Nat} {W W' : World} {vb : Nat} {xs : List Int} (h : VarB B W vb xs) (hb : Below W.heap.size W W') : VarB B W' vb xs := by
  obtain ⟨A, c, h1, h2, h3⟩ := h.ex
  exact ⟨⟨A, c, belowBox hb h1, h2.below hb, h3⟩, h.lt⟩
theorem flat_set (L : List PV) (i : Nat) (P : PV) (hi : i < L.length) : (((flat L).set (i * 3) (.int .i64 P.n)).set (i * 3 + 1) (.int .i64 P.r)).set (i * 3 + 2) (.slice P.A P.bs.length P.c) = flat (L.set i P) := by
  induction L generalizing i with
  | nil => simp at hi
  | cons q L ih =>
    rw [show flat (q :: L) = .int .i64 q.n :: .int .i64 q.r :: .slice q.A q.bs.length q.c :: flat L from rfl]
    cases i with
    | zero => rfl
    | succ i =>
      have := ih i (by simpa using hi)
      rw [show (i + 1) * 3 = i * 3 + 3 by omega]
      simp only [List.set_cons_succ, show i * 3 + 3 + 1 = i * 3 + 1 + 3 by omega, show i * 3 + 3 + 2 = i * 3 + 2 + 3 by omega]
      show _ :: _ :: _ :: _ = flat ((q :: L).set (i + 1) P)
      rw [this]
      rfl
/-- Between two rounds: the first i places hold what stays of the first j pages, the places from j on are as they were. -/
structure DlI (xs : List Int) (qs L : List PV) (i j : Nat) : Prop where
  len : L.length = qs.length
  ij : i < j
  jle : j ≤ qs.length
  head : L.take i = leftP xs (qs.take j)
  tail : ∀ m, j ≤ m → m < qs.length → gp L m = gp qs m
theorem leftP_snoc (xs : List Int) (qs : List PV) (j : Nat) (hj : j < qs.length) : leftP xs (qs.take (j + 1)) = leftP xs (qs.take j) ++ if (gp qs j).n ∈ xs then [] else [gp qs j] := by
  unfold leftP
  rw [List.take_succ_eq_append_getElem hj, List.filter_append, gp_get qs j hj]
  congr 1
  by_cases h : qs[j].n ∈ xs <;> simp [h]
theorem leftP_all {xs : List Int} {qs : List PV} {k : Nat} (hk : k ≤ qs.length) (h : ∀ j, j < k → (gp qs j).n ∉ xs) : leftP xs (qs.take k) = qs.take k := by
  unfold leftP
  refine List.filter_eq_self.2 fun p hp => ?_
  obtain ⟨j, hj, rfl⟩ := List.getElem_of_mem hp
  have hj' : j < k := by simp at hj; omega
  have := h j hj'
  rw [gp_get qs j (by omega)] at this
  simpa using this
theorem DlI.start {xs : List Int} {qs : List PV} {k : Nat} (hk : k < qs.length) (hm : (gp qs k).n ∈ xs) (h : ∀ j, j < k → (gp qs j).n ∉ xs) : DlI xs qs qs k (k + 1) :=
  ⟨rfl, by omega, by omega, by rw [leftP_snoc xs qs k hk, if_pos hm, List.append_nil, leftP_all (by omega) h], fun _ _ _ => rfl⟩
theorem gp_set_ne (L : List PV) (i m : Nat) (P : PV) (h : i ≠ m) : gp (L.set i P) m = gp L m := by
  simp [gp, List.getD_eq_getElem?_getD, List.getElem?_set, h]
theorem DlI.keep {xs : List Int} {qs L : List PV} {i j : Nat} (h : DlI xs qs L i j) (hj : j < qs.length) (hn : (gp qs j).n ∉ xs) : DlI xs qs (L.set i (gp qs j)) (i + 1) (j + 1) := by
  have hl := h.len
  have hij := h.ij
  refine ⟨by simp [hl], by omega, by omega, ?_, fun m hm hm' => ?_⟩
  · rw [leftP_snoc xs qs j hj, if_neg hn, ← h.head]
    have e : (L.set i (gp qs j)).take (i + 1) = L.take i ++ [gp qs j] := by
      rw [List.take_succ_eq_append_getElem (by simp; omega), List.getElem_set_self]
      congr 1
      rw [List.take_set_of_le (Nat.le_refl _)]
    exact e
  · rw [gp_set_ne _ _ _ _ (by omega)]
    exact h.tail m (by omega) hm'
theorem DlI.drop {xs : List Int} {qs L : List PV} {i j : Nat} (h : DlI xs qs L i j) (hj : j < qs.length) (hn : (gp qs j).n ∈ xs) : DlI xs qs L i (j + 1) := by
  have hij := h.ij
  refine ⟨h.len, by omega, by omega, ?_, fun m hm hm' => h.tail m (by omega) hm'⟩
  rw [leftP_snoc xs qs j hj, if_pos hn, List.append_nil]
  exact h.head
/-- How DeleteFunc ends. -/
structure DlE (B g : Nat) (xs : List Int) (qs : List PV) (W : World) (e : Ending) (w' : World) : Prop where
  ex : ∃ v, e = .returned v ∧ w'.ownsRow B 79 3 v (leftP xs qs).length (flat (leftP xs qs))
  upd : Upd (fun k => k = g) W w'
set_option maxRecDepth 100000 in
set_option maxHeartbeats 8000000 in
theorem DeleteFunc_any (W : World) (B g cap : Nat) (qs : List PV) (vb : Nat) (xs : List Int) (h : W.ownsRow B 79 3 (.slice (some ⟨g, 0, none⟩) qs.length cap) qs.length (flat qs)) (hv : VarB B W vb xs) (hl : qs.length ≤ 100000) :
    Calls Try.prog 47 #[.slice (some ⟨g, 0, none⟩) qs.length cap, hasF vb] W fun e w' => DlE B g xs qs W e w' := by
  have hgB := h.lt g rfl
  have hcap : qs.length ≤ cap ∧ cap ≤ 9223372036854775807 := by
    rcases h.2 with ⟨e0, _⟩ | ⟨g', cap', cur, e0, hb, hg, hn, hm, hs, ht⟩
    · cases e0
    · injection e0 with _ _ e3
      subst e3
      unfold maxLen at hm
      omega
  have HO := Lib.hid h
  have HV := Lib.hid hv
  have HIX := Lib.hid (IndexFunc_any W (some ⟨g, 0, none⟩) cap qs vb xs (own_rdC h) hv.c)
  clear h hv
  go_enter Try.func47, Try.ntmps47
  go_wp2_with fail
  refine HIX.out.mono ?_
  rintro e w1 ⟨⟨rfl, hno⟩ | ⟨k0, rfl, hk0, hm0, hno⟩, hb1⟩
  · have HALL : Hid (leftP xs qs = qs) := Lib.hid (by have := leftP_all (Nat.le_refl qs.length) hno; rwa [List.take_length] at this)
    have HO1 : Hid (w1.ownsRow B 79 3 (.slice (some ⟨g, 0, none⟩) qs.length cap) qs.length (flat qs)) := Lib.hid (own_upd HO.out (Upd.of_below hb1) fun k hk hf => by have := (HO.out.lt k hk).2; omega)
    have HU := Lib.hid (Upd.any hb1 (F := fun k => k = g))
    clear hno hb1 HIX
    go_wp2_with fail
    go_ret
    exact ⟨⟨_, rfl, by rw [HALL.out]; exact HO1.out⟩, HU.out⟩
  · have HI0 : Hid (∃ L, DlI xs qs L k0 (k0 + 1) ∧ w1.ownsRow B 79 3 (.slice (some ⟨g, 0, none⟩) qs.length cap) qs.length (flat L) ∧ Upd (fun k => k = g) W w1) := Lib.hid ⟨qs, DlI.start hk0 hm0 hno, own_upd HO.out (Upd.of_below hb1) fun k hk hf => by have := (HO.out.lt k hk).2; omega, Upd.any hb1⟩
    clear hno hb1 HIX hm0
    have hk1 : ¬ ((k0 : Int) = -1) := by omega
    have hk2 : ((k0 : Int) == -1) = false := by simp
    have w0 : IntKind.i64.wrap ((k0 : Int) + 1) = (k0 : Int) + 1 := IntWalk.i64_in _ (by omega)
    go_wp2_with fail
    go_loopw [5, 6] (fun vi vj wr => ∃ i j : Nat, j ≤ qs.length ∧ i < j ∧ vi = .int .i64 i ∧ vj = .int .i64 j ∧ Hid (∃ L, DlI xs qs L i j ∧ wr.ownsRow B 79 3 (.slice (some ⟨g, 0, none⟩) qs.length cap) qs.length (flat L) ∧ Upd (fun k => k = g) W wr)) (fun _ vj _ => qs.length - (intOf vj).toNat)
    case atStart => exact ⟨k0, k0 + 1, by omega, by omega, rfl, by go_num, HI0⟩
    case round =>
      obtain ⟨i, j, hj, hij, rfl, rfl, hI⟩ := hrel
      obtain ⟨L, hd, ho, hu⟩ := hI.out
      by_cases hlt : j < qs.length
      · have hLl : L.length = qs.length := hd.len
        have ho' := ho
        rw [← hLl] at ho'
        have x0 := ho.cellAt (j * 3) (by omega)
        have x1 := ho.cellAt (j * 3 + 1) (by omega)
        have x2 := ho.cellAt (j * 3 + 2) (by omega)
        have x00 := flat_get L j 0 (by omega) (by omega)
        rw [Nat.add_zero] at x00
        rw [x00, hd.tail j (Nat.le_refl _) hlt] at x0
        rw [flat_get L j 1 (by omega) (by omega), hd.tail j (Nat.le_refl _) hlt] at x1
        rw [flat_get L j 2 (by omega) (by omega), hd.tail j (Nat.le_refl _) hlt] at x2
        replace x0 : wr.cell? ⟨g, j * 3, none⟩ = some (.int .i64 (gp qs j).n) := x0
        replace x1 : wr.cell? ⟨g, j * 3 + 1, none⟩ = some (.int .i64 (gp qs j).r) := x1
        replace x2 : wr.cell? ⟨g, j * 3 + 2, none⟩ = some (.slice (gp qs j).A (gp qs j).bs.length (gp qs j).c) := x2
        obtain ⟨P, hP⟩ : ∃ P, gp qs j = P := ⟨_, rfl⟩
        rw [hP] at x0 x1 x2
        obtain ⟨W5, hW5⟩ : ∃ W5, wr.alloc (.cells #[.int .i64 P.n, .int .i64 P.r, .slice P.A P.bs.length P.c] 79) = W5 := ⟨_, rfl⟩
        have hb5 : Below wr.heap.size wr W5 := by rw [← hW5]; exact balloc _ _
        have h5 : W5.heap[wr.heap.size]? = some (.cells #[.int .i64 P.n, .int .i64 P.r, .slice P.A P.bs.length P.c] 79 (0, 0)) := by rw [← hW5]; exact heap_alloc_new _ _
        have y0 : W5.cell? ⟨wr.heap.size, 0, none⟩ = some (.int .i64 P.n) := by simp [World.cell?, h5]
        have y1 : W5.cell? ⟨wr.heap.size, 1, none⟩ = some (.int .i64 P.r) := by simp [World.cell?, h5]
        have y2 : W5.cell? ⟨wr.heap.size, 2, none⟩ = some (.slice P.A P.bs.length P.c) := by simp [World.cell?, h5]
        have hvr := (HV.out.upd hu fun k e => by omega).below hb5
        have HC := Lib.hid (hvr.c.has P.n P.r (.slice P.A P.bs.length P.c))
        have HD := Lib.hid hd
        have HOL := Lib.hid (And.intro ho (And.intro hu hb5))
        have H5 := Lib.hid h5
        have HP := Lib.hid hP
        have HLL := Lib.hid hLl
        have HIJ := Lib.hid hij
        clear hd ho ho' hu hb5 h5 hvr hP hLl hI x00
        go_wp2_with fail
        refine HC.out.mono ?_
        rintro e w6 ⟨rfl, hb6⟩
        obtain ⟨ho, hu, hb5⟩ := HOL.out
        have hb56 := bvia hb5 hb6 (Nat.le_refl _)
        have ho6 : w6.ownsRow B 79 3 (.slice (some ⟨g, 0, none⟩) qs.length cap) qs.length (flat L) := own_upd ho (Upd.of_below hb56) fun k hk hf => by have := (ho.lt k hk).2; omega
        have hu6 : Upd (fun k => k = g) W w6 := hu.trans (Upd.any hb56 (F := fun k => k = g)) fun i hi => .inl hi
        by_cases hm : P.n ∈ xs
        · rw [decide_eq_true hm]
          have HNX : Hid (∃ L, DlI xs qs L i (j + 1) ∧ w6.ownsRow B 79 3 (.slice (some ⟨g, 0, none⟩) qs.length cap) qs.length (flat L) ∧ Upd (fun k => k = g) W w6) := Lib.hid ⟨L, HD.out.drop hlt (by rw [HP.out]; exact hm), ho6, hu6⟩
          clear ho hu hb5 hb56 ho6 hu6 hm hb6
          go_wp2_with fail
          go_roundw
          case rel => exact ⟨i, j + 1, by omega, by have := HIJ.out; omega, rfl, by go_num, HNX⟩
          case measure => simp [intOf]; omega
        · rw [decide_eq_false hm]
          have h6 := belowBox hb6 H5.out
          have z0 : w6.cell? ⟨wr.heap.size, 0, none⟩ = some (.int .i64 P.n) := by simp [World.cell?, h6]
          have z1 : w6.cell? ⟨wr.heap.size, 1, none⟩ = some (.int .i64 P.r) := by simp [World.cell?, h6]
          have z2 : w6.cell? ⟨wr.heap.size, 2, none⟩ = some (.slice P.A P.bs.length P.c) := by simp [World.cell?, h6]
          have hij' := HIJ.out
          have hic : ∀ o, o < 3 → ∃ u, w6.cell? ⟨g, i * 3 + o, none⟩ = some u := fun o ho3 => by
            have hl3 : i * 3 + o < (flat L).length := by rw [flat_len, HLL.out]; omega
            exact ⟨(flat L)[i * 3 + o], by rw [ho6.cellAt (i * 3 + o) (by omega), List.getElem?_eq_getElem hl3]⟩
          obtain ⟨u0, q0⟩ := hic 0 (by omega)
          obtain ⟨u1, q1⟩ := hic 1 (by omega)
          obtain ⟨u2, q2⟩ := hic 2 (by omega)
          rw [Nat.add_zero] at q0
          have qf : ∀ o, w6.frozen? ⟨g, o, none⟩ = false := fun o => by
            rcases ho6.2 with ⟨e0, _⟩ | ⟨g', cap', cur, e0, _, hg', _⟩
            · cases e0
            · injection e0 with e1 _ _
              injection e1 with e1
              injection e1 with e1
              subst e1
              simp [World.frozen?, hg']
          have s1 := own_set ho6 (i := i * 3) (by omega) (.int .i64 P.n)
          have s2 := own_set s1 (i := i * 3 + 1) (by omega) (.int .i64 P.r)
          have s3 := own_set s2 (i := i * 3 + 2) (by omega) (.slice P.A P.bs.length P.c)
          rw [flat_set L i P (by rw [HLL.out]; omega)] at s3
          have ha1 : ((⟨g, 0, none⟩ : Addr).add (i * 3)) = ⟨g, i * 3, none⟩ := by
            unfold Addr.add
            split
            · rename_i h; rw [h]
            · simp
          have HNX : Hid (∃ L, DlI xs qs L (i + 1) (j + 1) ∧ (((w6.setCell ⟨g, i * 3, none⟩ (.int .i64 P.n)).setCell ⟨g, i * 3 + 1, none⟩ (.int .i64 P.r)).setCell ⟨g, i * 3 + 2, none⟩ (.slice P.A P.bs.length P.c)).ownsRow B 79 3 (.slice (some ⟨g, 0, none⟩) qs.length cap) qs.length (flat L) ∧ Upd (fun k => k = g) W (((w6.setCell ⟨g, i * 3, none⟩ (.int .i64 P.n)).setCell ⟨g, i * 3 + 1, none⟩ (.int .i64 P.r)).setCell ⟨g, i * 3 + 2, none⟩ (.slice P.A P.bs.length P.c))) := by
            have hk := HD.out.keep hlt (by rw [HP.out]; exact hm)
            rw [HP.out] at hk
            exact Lib.hid ⟨_, hk, s3, ((hu6.trans (Upd.setCell w6 ⟨g, i * 3, none⟩ _) fun i h => .inl h).trans (Upd.setCell _ ⟨g, i * 3 + 1, none⟩ _) fun i h => .inl h).trans (Upd.setCell _ ⟨g, i * 3 + 2, none⟩ _) fun i h => .inl h⟩
          clear ho hu hb5 hb56 ho6 hu6 hm hb6 s1 s2 s3 hic h6
          go_wp2_with fail
          exact ⟨⟨i + 1, j + 1, by omega, by have := HIJ.out; omega, by go_num, by go_num, HNX⟩, by simp [intOf]; omega⟩
      · obtain rfl : j = qs.length := by omega
        have hpre := own_prefix ho i (by omega)
        have hft : (flat L).take (i * 3) = flat (L.take i) := by
          have hll := hd.len
          have e : flat L = flat (L.take i) ++ flat (L.drop i) := by rw [← flat_append, List.take_append_drop]
          rw [e, List.take_append_of_le_length (by rw [flat_len]; simp; omega), List.take_of_length_le (by rw [flat_len]; simp; omega)]
        have hhd := hd.head
        rw [List.take_length] at hhd
        rw [hft, hhd] at hpre
        have hil : i = (leftP xs qs).length := by rw [← hhd, List.length_take, hd.len]; omega
        obtain ⟨i0, hi0, hz0, hz1, hz2⟩ := info_parts info_pg
        obtain ⟨w', hcl, hown', hgr⟩ := run_clear_own (P := Try.prog) (t := 22) (ty := 0) Try.underlying22 hi0 hz0 (sz := 3) rfl (by intro v hv; simp [Value.cells] at hv; rcases hv with rfl | rfl | rfl <;> rfl) hpre (qs.length - i) (cap - i) (by omega)
        have hst := fun W => slice_tailP g qs.length cap i (by omega) (by omega) W
        have hsh := fun W => slice_headP (some ⟨g, 0, none⟩) qs.length cap i (by omega) W
        have HFIN : Hid (DlE B g xs qs W (.returned (.slice (some ⟨g, 0, none⟩) i cap)) w') := Lib.hid ⟨⟨_, rfl, by rw [← hil]; exact hown'⟩, hu.trans ((Upd.of_grown hgr).mono (G := fun k => k = g) fun k h => by injection h with h; exact h.symm) fun i h => .inl h⟩
        clear hpre hft hhd hi0 hz0 hz1 hz2 hown' hgr hd ho hu hI hil
        go_wp2_with fail
        go_ret
        exact HFIN.out
end Go.Proofs.Ytidojcogojchpaa

/- mem's laws: MemChanges, in plain words. -/
set_option linter.unusedVariables false
set_option linter.unusedSimpArgs false
namespace Go.Proofs.Ytidojcogojchpaa
open Go.RowKit Go.Shelf

/-- What is not among the changed numbers is as it was. -/
structure Rel (A A' : PM) : Prop where
  cg : ∀ n ∈ A.cg, n ∈ A'.cg
  ks : ∀ n, n ∉ A'.cg → (n ∈ A'.ks ↔ n ∈ A.ks)
  pg : ∀ n, n ∉ A'.cg → n ∈ A.ks → (A'.pg n).r = (A.pg n).r ∧ (A'.pg n).bs = (A.pg n).bs
theorem Rel.refl (A : PM) : Rel A A := ⟨fun _ h => h, fun _ _ => Iff.rfl, fun _ _ _ => ⟨rfl, rfl⟩⟩
theorem Rel.trans {A B C : PM} (h : Rel A B) (k : Rel B C) : Rel A C := by
  refine ⟨fun n hn => k.cg n (h.cg n hn), fun n hn => ?_, fun n hn hm => ?_⟩
  · have h1 : n ∉ B.cg := fun e => hn (k.cg n e)
    exact (k.ks n hn).trans (h.ks n h1)
  · have h1 : n ∉ B.cg := fun e => hn (k.cg n e)
    obtain ⟨a1, a2⟩ := h.pg n h1 hm
    obtain ⟨b1, b2⟩ := k.pg n hn ((h.ks n h1).2 hm)
    exact ⟨b1.trans a1, b2.trans a2⟩
theorem rel_map1 (A : PM) (n r : Int) : Rel A (A.map1 n r) := by
  have hcg : (A.map1 n r).cg = insI A.cg n := rfl
  have hks : (A.map1 n r).ks = insI A.ks n := rfl
  refine ⟨fun m hm => by rw [hcg, mem_insI]; exact .inr hm, fun m hm => ?_, fun m hm hk => ?_⟩
  · rw [hcg, mem_insI] at hm
    rw [hks, mem_insI]
    exact ⟨fun e => e.resolve_left fun e => hm (.inl e), .inr⟩
  · rw [hcg, mem_insI] at hm
    show (updPg A.pg n (page0 r) m).r = _ ∧ (updPg A.pg n (page0 r) m).bs = _
    rw [updPg_ne fun e => hm (.inl e)]
    exact ⟨rfl, rfl⟩
theorem rel_mapN (A : PM) (f r : Int) : ∀ j, Rel A (A.mapN f r j)
  | 0 => Rel.refl A
  | j + 1 => (rel_mapN A f r j).trans (rel_map1 _ _ _)
theorem rel_del1 (A : PM) (n : Int) : Rel A (A.del1 n) := by
  have hcg : (A.del1 n).cg = insI A.cg n := rfl
  have hks : (A.del1 n).ks = delI A.ks n := rfl
  refine ⟨fun m hm => by rw [hcg, mem_insI]; exact .inr hm, fun m hm => ?_, fun m hm hk => ⟨rfl, rfl⟩⟩
  rw [hcg, mem_insI] at hm
  rw [hks, mem_delI]
  exact ⟨fun e => e.1, fun e => ⟨e, fun e' => hm (.inl e')⟩⟩
theorem rel_unmL : ∀ (L : List Int) (A : PM), Rel A (A.unmL L)
  | [], A => Rel.refl A
  | x :: L, A => (rel_del1 A x).trans (rel_unmL L (A.del1 x))
theorem rel_prot1 (A : PM) (r n : Int) : Rel A (A.prot1 r n) := by
  have hcg : (A.prot1 r n).cg = insI A.cg n := rfl
  refine ⟨fun m hm => by rw [hcg, mem_insI]; exact .inr hm, fun m hm => Iff.rfl, fun m hm hk => ?_⟩
  rw [hcg, mem_insI] at hm
  show (updPg A.pg n ⟨r, (A.pg n).bs⟩ m).r = _ ∧ (updPg A.pg n ⟨r, (A.pg n).bs⟩ m).bs = _
  rw [updPg_ne fun e => hm (.inl e)]
  exact ⟨rfl, rfl⟩
theorem rel_protL (r : Int) : ∀ (L : List Int) (A : PM), Rel A (A.protL r L)
  | [], A => Rel.refl A
  | x :: L, A => (rel_prot1 A r x).trans (rel_protL r L (A.prot1 r x))
theorem mem_pokeC (A : PM) (at_ : Int) (n : Int) : ∀ c : Nat, n ∈ (List.range c).foldl (fun l (i : Nat) => insI l (pcAt at_ i / 256)) A.cg ↔ n ∈ A.cg ∨ ∃ i : Nat, i < c ∧ n = pcAt at_ i / 256
  | 0 => by simp
  | c + 1 => by
    rw [List.range_succ, List.foldl_append]
    simp only [List.foldl_cons, List.foldl_nil]
    rw [mem_insI, mem_pokeC A at_ n c]
    constructor
    · rintro (e | e | ⟨i, hi, e⟩)
      · exact .inr ⟨c, by omega, e⟩
      · exact .inl e
      · exact .inr ⟨i, by omega, e⟩
    · rintro (e | ⟨i, hi, e⟩)
      · exact .inr (.inl e)
      · by_cases hic : i = c
        · subst hic; exact .inl e
        · exact .inr (.inr ⟨i, by omega, e⟩)
theorem rel_poke (A : PM) (at_ : Int) (bs : List Int) (hr : ∀ n ∈ A.ks, 0 ≤ n ∧ n < 16777216) (hl : ∀ n ∈ A.ks, (A.pg n).bs.length = 256) : Rel A (A.poke at_ bs bs.length) := by
  have hcg : ∀ n, n ∈ (A.poke at_ bs bs.length).cg ↔ n ∈ A.cg ∨ ∃ i : Nat, i < bs.length ∧ n = pcAt at_ i / 256 := fun n => by
    have := mem_pokeC A at_ n bs.length
    show n ∈ pokeC A at_ bs.length ↔ _
    unfold pokeC
    rw [Int.toNat_natCast]
    exact this
  refine ⟨fun m hm => (hcg m).2 (.inl hm), fun m hm => Iff.rfl, fun m hm hk => ⟨rfl, ?_⟩⟩
  show pokeB A at_ bs bs.length m = (A.pg m).bs
  refine list_gi (by rw [pokeB_len, hl m hk]) fun j hj => ?_
  rw [pokeB_len] at hj
  rw [pokeB_gi _ _ _ _ _ _ hj]
  refine if_neg fun hc => hm ((hcg m).2 (.inr ⟨((m * 256 + (j : Int) - at_) % 4294967296).toNat, ?_, ?_⟩))
  · have := Int.emod_nonneg (m * 256 + (j : Int) - at_) (show (4294967296 : Int) ≠ 0 by omega)
    omega
  · have h0 := Int.emod_nonneg (m * 256 + (j : Int) - at_) (show (4294967296 : Int) ≠ 0 by omega)
    have := hr m hk
    rw [Int.toNat_of_nonneg h0]
    unfold pcAt
    omega
theorem rel_do (A : PM) (x : CV) (hr : ∀ n ∈ A.ks, 0 ≤ n ∧ n < 16777216) (hl : ∀ n ∈ A.ks, (A.pg n).bs.length = 256) : Rel A (doA A x) := by
  unfold doA
  split
  · unfold mapA; split
    · exact rel_mapN A _ _ _
    · exact Rel.refl A
  split
  · unfold unmA; split
    · exact rel_unmL _ A
    · exact Rel.refl A
  split
  · unfold proA; split
    · exact rel_protL _ _ A
    · exact Rel.refl A
  split
  · unfold wrM; split
    · exact rel_poke A _ _ hr hl
    · exact Rel.refl A
  split
  · unfold wrM; split
    · exact rel_poke A _ _ hr hl
    · exact Rel.refl A
  · exact Rel.refl A
theorem M1.bs256 {B : Nat} {W : World} {b : Nat} {A : PM} (h : M1 B W b A) : ∀ n ∈ A.ks, (A.pg n).bs.length = 256 := by
  obtain ⟨S, h1, _⟩ := h.ex
  exact fun n hn => (h1.mem.page n hn).2.len
theorem M1.cgUp {B : Nat} {W : World} {b : Nat} {A : PM} (h : M1 B W b A) : Up A.cg := by
  obtain ⟨S, h1, _⟩ := h.ex
  exact h1.mem.chg.up
/-- The pages that stay are the same ones. -/
theorem left_see {A A' : PM} (h : Rel A A') (hu : Up A.ks) (hu' : Up A'.ks) :
    (seeM A.ks A.pg).filter (fun t => decide (t.1 ∉ A'.cg)) = (seeM A'.ks A'.pg).filter (fun t => decide (t.1 ∉ A'.cg)) := by
  have key : ∀ (ks : List Int) (pg : Int → Pg), (seeM ks pg).filter (fun t => decide (t.1 ∉ A'.cg)) = seeM (ks.filter fun n => decide (n ∉ A'.cg)) pg := fun ks pg => by
    unfold seeM
    rw [List.filter_map]; rfl
  rw [key, key]
  have hk : A.ks.filter (fun n => decide (n ∉ A'.cg)) = A'.ks.filter (fun n => decide (n ∉ A'.cg)) := by
    refine up_ext (hu.sublist List.filter_sublist) (hu'.sublist List.filter_sublist) fun n => ?_
    simp only [List.mem_filter, decide_eq_true_eq]
    exact ⟨fun ⟨a, b⟩ => ⟨(h.ks n b).2 a, b⟩, fun ⟨a, b⟩ => ⟨(h.ks n b).1 a, b⟩⟩
  rw [← hk]
  unfold seeM
  refine List.map_congr_left fun n hn => ?_
  obtain ⟨a, b⟩ := List.mem_filter.1 hn
  have := h.pg n (by simpa using b) a
  rw [this.1, this.2]
end Go.Proofs.Ytidojcogojchpaa

/- mem's laws: MemChanges' second closure: the pages that are not among the changed ones. -/
set_option linter.unusedVariables false
set_option linter.unusedSimpArgs false
namespace Go.Proofs.Ytidojcogojchpaa
open Go.RowKit Go.Shelf

set_option maxRecDepth 100000 in
theorem DeleteFunc_nil (W : World) (vb : Nat) (xs : List Int) (hv : VarC W vb xs) :
    Calls Try.prog 47 #[.slice none 0 0, hasF vb] W fun e w' => e = .returned (.slice none 0 0) ∧ Below W.heap.size W w' := by
  have HIX := Lib.hid (IndexFunc_any W none 0 [] vb xs ⟨rfl, by simp, fun j hj => absurd hj (by simp [flat])⟩ hv)
  clear hv
  go_enter Try.func47, Try.ntmps47
  go_wp2_with fail
  refine HIX.out.mono ?_
  rintro e w1 ⟨⟨rfl, _⟩ | ⟨k0, rfl, hk0, _⟩, hb1⟩
  · have HB := Lib.hid hb1
    clear hb1
    go_wp2_with fail
    go_ret
    exact ⟨rfl, HB.out⟩
  · exact absurd hk0 (by simp)
/-- How the closure ends. -/
structure LtE (xs : List Int) (ps : List PV) (W : World) (e : Ending) (w' : World) : Prop where
  ex : ∃ Ad cap, e = .returned (.slice Ad (leftP xs ps).length cap) ∧ Rd w' Ad (leftP xs ps).length 3 (flat (leftP xs ps)) ∧ ∀ ad, Ad = some ad → W.heap.size ≤ ad.block
  below : Below W.heap.size W w'
set_option maxRecDepth 100000 in
set_option maxHeartbeats 2000000 in
theorem left_any (W : World) (B : Nat) (v : Value) (ps : List PV) (vb : Nat) (xs : List Int) (h : W.ownsRow B 79 3 v ps.length (flat ps)) (hl : ps.length ≤ 100000) (hv : VarC W vb xs) (hlt : vb < W.heap.size) (hA : ∀ A c, W.heap[vb]? = some (.cells #[.slice A xs.length c] 59 (0, 0)) → ∀ ad, A = some ad → 0 < xs.length → ad.block < W.heap.size) :
    Calls Try.prog 46 #[v, .pointer (some ⟨vb, 0, none⟩)] W fun e w' => LtE xs ps W e w' := by
  have HCL := Lib.hid (Clone_pages W B v ps h hl)
  have HV := Lib.hid (show VarB W.heap.size W vb xs by
    obtain ⟨A, c, h1, h2⟩ := hv.ex
    exact ⟨⟨A, c, h1, h2, hA A c h1⟩, hlt⟩)
  have hsz := World.ownsRow.lt h
  clear h hv hA hlt
  go_enter Try.func46, Try.ntmps46
  go_wp2_with fail
  refine HCL.out.mono ?_
  rintro e w1 ⟨v1, rfl, ho1, hb1⟩
  have HV1 := Lib.hid (HV.out.below hb1)
  have HB1 := Lib.hid hb1
  rcases ho1.2 with ⟨rfl, h0⟩ | ⟨g, cap, cur, rfl, hb, hg, hn, hm, hs, ht⟩
  · have hps : ps = [] := List.length_eq_zero_iff.1 h0
    subst hps
    have HDN := Lib.hid (DeleteFunc_nil w1 vb xs HV1.out.c)
    clear ho1 hb1 h0
    go_wp2_with fail
    refine HDN.out.mono ?_
    rintro e w2 ⟨rfl, hb2⟩
    have HB2 := Lib.hid (bvia HB1.out hb2 (Nat.le_refl _))
    clear hb2
    go_wp2_with fail
    go_ret
    exact ⟨⟨none, 0, rfl, ⟨rfl, by simp [leftP], fun j hj => absurd hj (by simp [leftP, flat])⟩, fun ad e => by cases e⟩, HB2.out⟩
  · have HDF := Lib.hid (DeleteFunc_any w1 W.heap.size g cap ps vb xs ho1 HV1.out hl)
    have hgb := ho1.lt g rfl
    clear ho1 hb1 hg hn hm hs ht
    go_wp2_with fail
    refine HDF.out.mono ?_
    rintro e w2 ⟨⟨v2, rfl, ho2⟩, hu2⟩
    obtain ⟨A2, c2, rfl, rd2⟩ := own_rd ho2
    have HE : Hid (LtE xs ps W (.returned (.slice A2 (leftP xs ps).length c2)) w2) := Lib.hid ⟨⟨A2, c2, rfl, rd2, fun ad e => by subst e; exact (ho2.lt ad.block rfl).1⟩, HB1.out.trans (hu2.below HB1.out.size fun k e => by omega)⟩
    clear ho2 hu2 rd2
    obtain ⟨nn, hnn⟩ : ∃ nn, (leftP xs ps).length = nn := ⟨_, rfl⟩
    rw [hnn] at HE ⊢
    clear hnn
    go_wp2_with fail
    go_ret
    exact HE.out
theorem leftP_see (xs : List Int) (ps : List PV) : (leftP xs ps).map PV.see = (ps.map PV.see).filter fun t => decide (t.1 ∉ xs) := by
  unfold leftP
  rw [List.filter_map]; rfl
theorem leftP_sub {xs : List Int} {ps : List PV} {p : PV} (h : p ∈ leftP xs ps) : p ∈ ps := (List.mem_filter.1 h).1
end Go.Proofs.Ytidojcogojchpaa

/- mem's laws: MemChanges. -/
set_option linter.unusedVariables false
set_option linter.unusedSimpArgs false
namespace Go.Proofs.Ytidojcogojchpaa
open Go.RowKit Go.Shelf

theorem noPanic_mk {Q : Exit → Act → World → Prop} {a : Act} {w : World} (h : Q .normal a w) : NoPanic Q .normal a w := h
/-- Save, with the row itself. -/
structure SavO (A : PM) (W : World) (e : Ending) (w' : World) : Prop where
  ex : ∃ v ps, e = .returned v ∧ w'.ownsRow W.heap.size 79 3 v ps.length (flat ps) ∧ ps.map PV.see = seeM A.ks A.pg ∧ BytesAt w' W.heap.size ps
  below : Below W.heap.size W w'
theorem M1.SaveO {B : Nat} {W : World} {b : Nat} {A : PM} (h : M1 B W b A) :
    Calls Try.prog 25 #[.pointer (some ⟨b, 0, none⟩)] W fun e w' => SavO A W e w' := by
  obtain ⟨S, h1, h2⟩ := h.ex
  refine (Save_any W b S A h1.mem).mono ?_
  rintro e w' ⟨v, rfl, hk⟩
  obtain ⟨ps, row, see, by_⟩ := hk.ex
  exact ⟨⟨v, ps, rfl, row, see, by_⟩, hk.below⟩
/-- The two lists of calls, one behind the other. -/
theorem cat_any (W : World) (D E : Option Addr) (cd ce : Nat) (xs ys : List CV) (hx : CsIn W D cd xs) (hy : CsIn W E ce ys) (hls : xs.length + ys.length ≤ 4398046511104) :
    Calls Try.prog 43 #[.slice (some ⟨W.heap.size, 0, none⟩) 2 2] (W.alloc (.cells #[.slice D xs.length cd, .slice E ys.length ce] 62)) fun e w' => ∃ Ad cap, e = .returned (.slice Ad (xs ++ ys).length cap) ∧ CsIn w' Ad cap (xs ++ ys) ∧ Below W.heap.size W w' := by
  have hb := balloc W (.cells #[.slice D xs.length cd, .slice E ys.length ce] 62)
  refine (Concat2C _ W.heap.size D E xs ys cd ce (heap_alloc_new _ _) (hx.rd.below hb) (hy.rd.below hb) hls hx.cap hy.cap).mono ?_
  rintro e w' ⟨v, rfl, row, hb2⟩
  obtain ⟨Ad, cap, rfl, rd⟩ := own_rd row
  have hb12 := bvia hb hb2 (Nat.le_refl _)
  refine ⟨Ad, cap, rfl, ⟨rd, fun x h => ?_, ?_, ?_⟩, hb12⟩
  · rcases List.mem_append.1 h with h | h
    · exact (hx.ok x h).below hb12
    · exact (hy.ok x h).below hb12
  · rcases row.2 with ⟨e0, h0⟩ | ⟨g, cap', cur, e0, hb, hg, hn, hm, hs, ht⟩
    · injection e0 with e1 e2 e3; omega
    · injection e0 with e1 e2 e3; omega
  · rcases row.2 with ⟨e0, h0⟩ | ⟨g, cap', cur, e0, hb, hg, hn, hm, hs, ht⟩
    · injection e0 with e1 e2 e3; omega
    · injection e0 with e1 e2 e3; unfold maxLen at hm; omega
theorem fewB_app (xs ys : List CV) : True := trivial
set_option maxRecDepth 1000000 in
set_option maxHeartbeats 8000000 in
theorem changes_any (A : Option Addr) (c : Nat) (ps : List PV) (D E : Option Addr) (cd ce : Nat) (xs ys : List CV) (w : World) (hp : PsIn w A c ps) (hx : CsIn w D cd xs) (hy : CsIn w E ce ys) (hls : xs.length + ys.length ≤ 4398046511104) :
    Calls Try.prog 10 #[.slice A ps.length c, .slice D xs.length cd, .slice E ys.length ce] w fun e w' => e = .returned (.bool true) ∧ Below w.heap.size w w' := by
  have HP := Lib.hid hp
  have HX := Lib.hid hx
  have HY := Lib.hid hy
  have hlen := hp.rd.le
  have hcx := hx.cap
  have hlcx := hx.le
  have hcy := hy.cap
  have hlcy := hy.le
  clear hp hx hy
  go_enter Try.func10, Try.ntmps10
  go_wp2_with fail
  refine (sane_any w).mono ?_
  rintro e W1 ⟨rfl, hb1⟩
  have HB1 := Lib.hid hb1
  have HP1 := Lib.hid (HP.out.below hb1)
  clear hb1
  go_wp2_with fail
  refine (loaded_any W1 A c ps HP1.out.rd HP1.out.by_ HP1.out.u8).mono ?_
  rintro e W2 ⟨hb2, hres⟩
  have HB2 := Lib.hid (bvia HB1.out hb2 (Nat.le_refl _))
  have hs3 : w.heap.size ≤ W1.heap.size := HB1.out.size
  have hs2 : W1.heap.size ≤ W2.heap.size := hb2.size
  clear hb2
  rcases hres with ⟨⟨hl20, hisp⟩, mb, rfl, hld⟩ | ⟨hnot, rfl⟩
  · have hc20 : ¬ (ps.length : Int) > 20 := by omega
    have HPO := Lib.hid (psOk_of hisp HP1.out.u8 (by omega))
    have HM := Lib.hid hld.m1.1
    have HISP := Lib.hid hisp
    clear hisp hld
    obtain ⟨W3, hW3⟩ : ∃ W3, W2.alloc (.cells #[.pointer (some ⟨mb, 0, none⟩)] 25) = W3 := ⟨_, rfl⟩
    have hb3 : Below W2.heap.size W2 W3 := by rw [← hW3]; exact balloc _ _
    have h3 : W3.heap[W2.heap.size]? = some (.cells #[.pointer (some ⟨mb, 0, none⟩)] 25 (0, 0)) := by rw [← hW3]; exact heap_alloc_new _ _
    have HV3 : Hid (VarM (fun k => k = W2.heap.size) W1.heap.size W3 W2.heap.size mb (ldM ps)) := by
      obtain ⟨S, h1, h2⟩ := HM.out.ex
      refine Lib.hid ⟨⟨S, h1.below hb3, h2, fun k hk hf => ?_⟩, h3, rfl, fun k hk => ?_⟩
      · have := h1.mem.lt k (h1.mem.foot_reads k hf); omega
      · have := (Array.getElem?_eq_some_iff.1 h3).1; omega
    have HB3 := Lib.hid (bvia HB2.out hb3 (Nat.le_refl _))
    obtain ⟨vb, hvb⟩ : ∃ vb, W2.heap.size = vb := ⟨_, rfl⟩
    rw [hvb] at HV3 hs2
    clear hb3 h3
    have HCT := Lib.hid (cat_any W3 D E cd ce xs ys (HX.out.below HB3.out) (HY.out.below HB3.out) hls)
    obtain ⟨zs, hzs⟩ : ∃ zs, xs ++ ys = zs := ⟨_, rfl⟩
    rw [hzs] at HCT
    have HZS := Lib.hid hzs
    clear hzs
    cases hfw : fewB zs with
    | false =>
      go_wp2_with fail
      refine HCT.out.mono ?_
      rintro e W4 ⟨A4, c4, rfl, hcs4, hb4⟩
      have HB4 := Lib.hid (bvia HB3.out hb4 (Nat.le_refl _))
      have HFW := Lib.hid (few_any W4 A4 c4 zs hcs4)
      rw [hfw] at HFW
      clear hcs4 hb4 HCT
      go_wp2_with fail
      refine HFW.out.mono ?_
      rintro e W5 ⟨rfl, hb5⟩
      have HB5 := Lib.hid (bvia HB4.out hb5 (Nat.le_refl _))
      clear hb5 HFW HV3 HB3 HB4
      have HI := Lib.hid (IsPages_any W5 A c ps (HP.out.below HB5.out).rd)
      rw [HISP.out] at HI
      go_wp2_with fail
      refine HI.out.mono ?_
      rintro e W6 ⟨rfl, hb6⟩
      have HB6 := Lib.hid (bvia HB5.out hb6 (Nat.le_refl _))
      clear hb6 HI HB5
      have HCT := Lib.hid (cat_any W6 D E cd ce xs ys (HX.out.below HB6.out) (HY.out.below HB6.out) hls)
      rw [HZS.out] at HCT
      go_wp2_with fail
      refine HCT.out.mono ?_
      rintro e W7 ⟨A7, c7, rfl, hcs7, hb7⟩
      have HB7 := Lib.hid (bvia HB6.out hb7 (Nat.le_refl _))
      have HFW := Lib.hid (few_any W7 A7 c7 zs hcs7)
      rw [hfw] at HFW
      clear hcs7 hb7 hfw HCT
      go_wp2_with fail
      refine HFW.out.mono ?_
      rintro e W8 ⟨rfl, hb8⟩
      have HB8 := Lib.hid (bvia HB7.out hb8 (Nat.le_refl _))
      clear hb8 HFW
      go_wp2_with fail
      go_ret
      exact ⟨rfl, HB8.out⟩
    | true =>
      go_wp2_with fail
      refine HCT.out.mono ?_
      rintro e W4 ⟨A4, c4, rfl, hcs4, hb4⟩
      have HB4 := Lib.hid (bvia HB3.out hb4 (Nat.le_refl _))
      have HV4 := Lib.hid (HV3.out.below hb4)
      have HFW := Lib.hid (few_any W4 A4 c4 zs hcs4)
      rw [hfw] at HFW
      clear hcs4 hb4 hfw HCT
      go_wp2_with fail
      refine HFW.out.mono ?_
      rintro e W5 ⟨rfl, hb5⟩
      have HB5 := Lib.hid (bvia HB4.out hb5 (Nat.le_refl _))
      have HI5 : Hid (∃ A', VarM (fun k => k = vb) W1.heap.size W5 vb mb A' ∧ Below w.heap.size w W5) := Lib.hid ⟨_, HV4.out.below hb5, HB5.out⟩
      clear hb5 HFW HV4 HV3 HB3 HB4
      go_wp2_with fail
      go_loopw [53] (fun i wr => ∃ k : Nat, k ≤ xs.length ∧ i = .int .i64 k ∧ Hid (∃ A', VarM (fun k => k = vb) W1.heap.size wr vb mb A' ∧ Below w.heap.size w wr)) (fun i _ => xs.length - (intOf i).toNat)
      case atStart => exact ⟨0, Nat.zero_le _, rfl, HI5⟩
      case round =>
        obtain ⟨k, hk, rfl, hI⟩ := hrel
        obtain ⟨C, hvm, hbw⟩ := hI.out
        by_cases hlt : k < xs.length
        · have hXk := HX.out.ok _ (gx_mem xs k hlt)
          obtain ⟨ad, rfl, x0, x1, x2, x3, x4, x5⟩ := (HX.out.below hbw).at k hlt
          obtain ⟨X, hX⟩ : ∃ X, gx xs k = X := ⟨_, rfl⟩
          rw [hX] at x0 x1 x2 x3 x4 x5 hXk
          obtain ⟨kind, pg, n, rt, a, Ab, cb, bs⟩ := X
          obtain ⟨W7, hW7⟩ : ∃ W7, wr.alloc (.cells #[.int .i64 kind, .int .i64 pg, .int .i64 n, .int .i64 rt, .int .u32 a, .slice Ab bs.length cb] 54) = W7 := ⟨_, rfl⟩
          have h7 : W7.heap[wr.heap.size]? = some (.cells #[.int .i64 kind, .int .i64 pg, .int .i64 n, .int .i64 rt, .int .u32 a, .slice Ab bs.length cb] 54 (0, 0)) := by rw [← hW7]; exact heap_alloc_new wr _
          have hb7 : Below wr.heap.size wr W7 := by rw [← hW7]; exact balloc wr _
          have y0 : W7.cell? ⟨wr.heap.size, 0, none⟩ = some (.int .i64 kind) := by simp [World.cell?, h7]
          have y1 : W7.cell? ⟨wr.heap.size, 1, none⟩ = some (.int .i64 pg) := by simp [World.cell?, h7]
          have y2 : W7.cell? ⟨wr.heap.size, 2, none⟩ = some (.int .i64 n) := by simp [World.cell?, h7]
          have y3 : W7.cell? ⟨wr.heap.size, 3, none⟩ = some (.int .i64 rt) := by simp [World.cell?, h7]
          have y4 : W7.cell? ⟨wr.heap.size, 4, none⟩ = some (.int .u32 a) := by simp [World.cell?, h7]
          have y5 : W7.cell? ⟨wr.heap.size, 5, none⟩ = some (.slice Ab bs.length cb) := by simp [World.cell?, h7]
          have HB7 := Lib.hid (bvia hbw hb7 (Nat.le_refl _))
          have HD := Lib.hid (does1_any _ W1.heap.size W7 vb mb C ⟨kind, pg, n, rt, a, Ab, cb, bs⟩ (hvm.below hb7) (hXk.below (bvia hbw hb7 (Nat.le_refl _))) (fun h0 ad e => by have := hXk.bs.rd.old (by rw [Nat.mul_one]; exact h0) ad e; omega))
          have HK := Lib.hid (True.intro)
          clear h7 hb7 hX hXk hI hvm hbw
          go_wp2_with fail
          refine HD.out.mono ?_
          rintro e w8 ⟨rfl, hve⟩
          have HN : Hid (∃ A', VarM (fun k => k = vb) W1.heap.size w8 vb mb A' ∧ Below w.heap.size w w8) := Lib.hid ⟨_, hve.v, HB7.out.trans (hve.below.mono hs3)⟩
          clear hve HD
          go_wp2_with fail
          go_roundw
          case rel => exact ⟨k + 1, by omega, by go_num, HN⟩
          case measure => simp [intOf]; omega
        · obtain rfl : k = xs.length := by omega
          have HVL := Lib.hid (And.intro hvm hbw)
          clear hI hvm hbw hlt hk
          obtain ⟨wl, hwl⟩ : ∃ wl, wl = wr := ⟨wr, rfl⟩
          rw [← hwl] at HVL ⊢
          clear hwl
          have hvl := HVL.out.1.var
          have v0 : wl.cell? ⟨vb, 0, none⟩ = some (.pointer (some ⟨mb, 0, none⟩)) := by simp [World.cell?, hvl]
          clear hvl
          go_wp2_with fail
          refine HVL.out.1.Mark.mono ?_
          rintro e W10 ⟨rfl, hve⟩
          have HB10 := Lib.hid (HVL.out.2.trans (hve.below.mono hs3))
          have HV10 := Lib.hid hve.v
          have hv10 := hve.v.var
          have v1 : W10.cell? ⟨vb, 0, none⟩ = some (.pointer (some ⟨mb, 0, none⟩)) := by simp [World.cell?, hv10]
          obtain ⟨A0, hA0⟩ : ∃ A0 : PM, { C with cg := [] } = A0 := ⟨_, rfl⟩
          rw [hA0] at HV10
          have HCG : Hid (A0.cg = []) := Lib.hid (by rw [← hA0])
          clear hve hv10 v0 HVL hA0
          go_wp2_with fail
          refine HV10.out.m.SaveO.mono ?_
          rintro e W11 ⟨⟨vo, po, rfl, row11, see11, by11⟩, hb11⟩
          have HB11 := Lib.hid (bvia HB10.out hb11 (Nat.le_refl _))
          have HV11 := Lib.hid (HV10.out.below hb11)
          have HSZ : Hid (W10.heap.size ≤ W11.heap.size) := Lib.hid hb11.size
          have HB1011 := Lib.hid hb11
          have HPK := Lib.hid (HV10.out.m.psOk see11)
          have HUPA := Lib.hid HV10.out.m.up
          have HOLD := Lib.hid (And.intro row11 (And.intro see11 by11))
          have v2 : W11.cell? ⟨vb, 0, none⟩ = some (.pointer (some ⟨mb, 0, none⟩)) := by
            have := HV11.out.var
            simp [World.cell?, this]
          obtain ⟨Ao, co, rfl, _⟩ := own_rd row11
          clear row11 see11 by11 hb11 v1
          go_wp2_with fail
          refine HV11.out.m.Changed.mono ?_
          rintro e W12 ⟨⟨A12, c12, rfl, rd12, hc12, new12⟩, hb12⟩
          rw [HCG.out]
          have HB12 := Lib.hid (bvia HB11.out hb12 (Nat.le_refl _))
          have HV12 := Lib.hid (HV11.out.below hb12)
          have HOLD12 := Lib.hid (show W12.ownsRow W10.heap.size 79 3 (.slice Ao po.length co) po.length (flat po) ∧ po.map PV.see = seeM A0.ks A0.pg ∧ BytesAt W12 W10.heap.size po from ⟨own_upd HOLD.out.1 (Upd.of_below hb12) fun k hk hf => by have := (HOLD.out.1.lt k hk).2; omega, HOLD.out.2.1, HOLD.out.2.2.below hb12⟩)
          have HS12 : Hid (W10.heap.size ≤ W12.heap.size) := Lib.hid (Nat.le_trans HSZ.out hb12.size)
          have HBEL : Hid (Below W10.heap.size W10 W12) := Lib.hid (HB1011.out.trans (hb12.mono HSZ.out))
          clear rd12 hc12 new12 hb12 v2 HB11
          -- from here on all that lies now, but for the memory, is left alone
          obtain ⟨R, hR⟩ : ∃ R : Nat → Prop, VarM R W1.heap.size W12 vb mb A0 ∧ ∀ k, W10.heap.size ≤ k → k < W12.heap.size → R k := by
            obtain ⟨S, s1, s2, s3⟩ := HV10.out.ex
            have hbel := HBEL.out
            refine ⟨fun k => k < W12.heap.size ∧ ¬ S.foot mb k, ⟨⟨S, s1.below hbel, s2, fun k hk => hk.2⟩, HV12.out.var, ⟨?_, s3 vb rfl⟩, fun k hk => hk.1⟩, fun k h1 h2 => ⟨h2, fun hf => ?_⟩⟩
            · exact (Array.getElem?_eq_some_iff.1 HV12.out.var).1
            · have := s1.mem.lt k (s1.mem.foot_reads k hf); omega
          have HI12 : Hid (∃ A', VarM R W1.heap.size W12 vb mb A' ∧ Below w.heap.size w W12 ∧ Upd (fun k => ¬ R k) W12 W12 ∧ Rel A0 A') := Lib.hid ⟨A0, hR.1, HB12.out, Upd.refl _ _, Rel.refl _⟩
          have HRK := Lib.hid hR.2
          clear hR HV12 HV11 HV10
          go_wp2_with fail
          go_loopw [71] (fun i wr => ∃ k : Nat, k ≤ ys.length ∧ i = .int .i64 k ∧ Hid (∃ A', VarM R W1.heap.size wr vb mb A' ∧ Below w.heap.size w wr ∧ Upd (fun k => ¬ R k) W12 wr ∧ Rel A0 A')) (fun i _ => ys.length - (intOf i).toNat)
          case atStart => exact ⟨0, Nat.zero_le _, rfl, HI12⟩
          case round =>
            obtain ⟨k, hk, rfl, hI⟩ := hrel
            obtain ⟨C, hvm, hbw, hu, hre⟩ := hI.out
            by_cases hlt : k < ys.length
            · have hXk := HY.out.ok _ (gx_mem ys k hlt)
              obtain ⟨ad, rfl, x0, x1, x2, x3, x4, x5⟩ := (HY.out.below hbw).at k hlt
              obtain ⟨X, hX⟩ : ∃ X, gx ys k = X := ⟨_, rfl⟩
              rw [hX] at x0 x1 x2 x3 x4 x5 hXk
              obtain ⟨kind, pg, n, rt, a, Ab, cb, bs⟩ := X
              obtain ⟨W7, hW7⟩ : ∃ W7, wr.alloc (.cells #[.int .i64 kind, .int .i64 pg, .int .i64 n, .int .i64 rt, .int .u32 a, .slice Ab bs.length cb] 54) = W7 := ⟨_, rfl⟩
              have h7 : W7.heap[wr.heap.size]? = some (.cells #[.int .i64 kind, .int .i64 pg, .int .i64 n, .int .i64 rt, .int .u32 a, .slice Ab bs.length cb] 54 (0, 0)) := by rw [← hW7]; exact heap_alloc_new wr _
              have hb7 : Below wr.heap.size wr W7 := by rw [← hW7]; exact balloc wr _
              have y0 : W7.cell? ⟨wr.heap.size, 0, none⟩ = some (.int .i64 kind) := by simp [World.cell?, h7]
              have y1 : W7.cell? ⟨wr.heap.size, 1, none⟩ = some (.int .i64 pg) := by simp [World.cell?, h7]
              have y2 : W7.cell? ⟨wr.heap.size, 2, none⟩ = some (.int .i64 n) := by simp [World.cell?, h7]
              have y3 : W7.cell? ⟨wr.heap.size, 3, none⟩ = some (.int .i64 rt) := by simp [World.cell?, h7]
              have y4 : W7.cell? ⟨wr.heap.size, 4, none⟩ = some (.int .u32 a) := by simp [World.cell?, h7]
              have y5 : W7.cell? ⟨wr.heap.size, 5, none⟩ = some (.slice Ab bs.length cb) := by simp [World.cell?, h7]
              have HB7 := Lib.hid (bvia hbw hb7 (Nat.le_refl _))
              have HD := Lib.hid (does1_any _ W1.heap.size W7 vb mb C ⟨kind, pg, n, rt, a, Ab, cb, bs⟩ (hvm.below hb7) (hXk.below (bvia hbw hb7 (Nat.le_refl _))) (fun h0 ad e => by have := hXk.bs.rd.old (by rw [Nat.mul_one]; exact h0) ad e; omega))
              have HK := Lib.hid (And.intro hu (And.intro hre (And.intro (HB7.out) (And.intro hvm.m.rng (And.intro hvm.m.bs256 (Upd.any hb7 (F := fun k => ¬ R k)))))))
              clear h7 hb7 hX hXk hI hvm hbw hu hre
              go_wp2_with fail
              refine HD.out.mono ?_
              rintro e w8 ⟨rfl, hve⟩
              have HN : Hid (∃ A', VarM R W1.heap.size w8 vb mb A' ∧ Below w.heap.size w w8 ∧ Upd (fun k => ¬ R k) W12 w8 ∧ Rel A0 A') := Lib.hid ⟨_, hve.v, HB7.out.trans (hve.below.mono hs3), (HK.out.1.trans HK.out.2.2.2.2.2 fun i hi => .inl hi).trans hve.upd fun i hi => .inl hi, HK.out.2.1.trans (rel_do C ⟨kind, pg, n, rt, a, Ab, cb, bs⟩ HK.out.2.2.2.1 HK.out.2.2.2.2.1)⟩
              clear hve HD
              go_wp2_with fail
              go_roundw
              case rel => exact ⟨k + 1, by omega, by go_num, HN⟩
              case measure => simp [intOf]; omega
            · obtain rfl : k = ys.length := by omega
              have HVL := Lib.hid (And.intro hvm (And.intro hbw (And.intro hu hre)))
              clear hI hvm hbw hu hre hlt hk
              obtain ⟨wl, hwl⟩ : ∃ wl, wl = wr := ⟨wr, rfl⟩
              rw [← hwl] at HVL ⊢
              clear hwl
              have hvl := HVL.out.1.var
              have v0 : wl.cell? ⟨vb, 0, none⟩ = some (.pointer (some ⟨mb, 0, none⟩)) := by simp [World.cell?, hvl]
              clear hvl
              go_wp2_with fail
              refine HVL.out.1.m.Changed.mono ?_
              rintro e W15 ⟨⟨A15, c15, rfl, rd15, hc15, new15⟩, hb15⟩
              obtain ⟨cg, hcg⟩ : ∃ cg, C.cg = cg := ⟨_, rfl⟩
              rw [hcg] at rd15 hc15 ⊢
              obtain ⟨W16, hW16⟩ : ∃ W16, W15.alloc (.cells #[.slice A15 cg.length c15] 59) = W16 := ⟨_, rfl⟩
              have hb16 : Below W15.heap.size W15 W16 := by rw [← hW16]; exact balloc _ _
              have h16 : W16.heap[W15.heap.size]? = some (.cells #[.slice A15 cg.length c15] 59 (0, 0)) := by rw [← hW16]; exact heap_alloc_new _ _
              have hbl : Below wl.heap.size wl W16 := bvia hb15 hb16 (Nat.le_refl _)
              have HV16 := Lib.hid (HVL.out.1.below hbl)
              have HB16 := Lib.hid (bvia HVL.out.2.1 hbl (Nat.le_refl _))
              have HU16 := Lib.hid (HVL.out.2.2.1.trans (Upd.any hbl (F := fun k => ¬ R k)) fun i hi => .inl hi)
              have HC16 : Hid (W16.heap[W15.heap.size]? = some (.cells #[.slice A15 cg.length c15] 59 (0, 0)) ∧ Rd W16 A15 cg.length 1 (nums .i64 cg)) := Lib.hid ⟨h16, rd15.below hb16⟩
              have HRE := Lib.hid HVL.out.2.2.2
              have HVL2 := Lib.hid HVL.out.1.m.cgUp
              have HCGE := Lib.hid hcg
              obtain ⟨vc, hvc⟩ : ∃ vc, W15.heap.size = vc := ⟨_, rfl⟩
              rw [hvc] at HC16
              clear hb15 hb16 h16 hbl rd15 new15 HVL hcg v0
              go_wp2_with fail
              refine wp_region_noPanic ?_
              obtain ⟨W17, hW17⟩ : ∃ W17, W16.drew = W17 := ⟨_, rfl⟩
              have hb17 : Below W16.heap.size W16 W17 := by rw [← hW17]; exact bdrewN (Below.refl _ _) 1
              have HV17 := Lib.hid (HV16.out.below hb17)
              have HB17 := Lib.hid (bvia HB16.out hb17 (Nat.le_refl _))
              have HU17 := Lib.hid (HU16.out.trans (Upd.any hb17 (F := fun k => ¬ R k)) fun i hi => .inl hi)
              have HC17 := Lib.hid (And.intro (belowBox hb17 HC16.out.1) (HC16.out.2.below hb17))
              clear hb17
              have hSd : W16.drew.cell? ⟨vc, 0, none⟩ = some (.slice A15 cg.length c15) ∧ W16.drew.cell? ⟨vb, 0, none⟩ = some (.pointer (some ⟨mb, 0, none⟩)) := by
                rw [hW17]
                have e1 := HC17.out.1
                have e2 := HV17.out.var
                exact ⟨by simp [World.cell?, e1], by simp [World.cell?, e2]⟩
              refine wp_region_till2 13 (fun W' => W'.cell? ⟨vc, 0, none⟩ = some (.slice A15 cg.length c15) ∧ W'.cell? ⟨vb, 0, none⟩ = some (.pointer (some ⟨mb, 0, none⟩))) (by kernel_rfl) hSd (fun hS => ?_)
              rw [hW17] at hS ⊢
              clear hSd
              refine wpAnyT_takeN 0 _ (.slice A15 cg.length c15) (by rfl) (by kernel_rfl) (by kernel_rfl) (by kernel_rfl) (by kernel_rfl) (fun _ _ _ h => h) (Or.inl ⟨by rfl, fun W' hW' => by obtain ⟨s0, s1⟩ := hW'; go_simp⟩) hS ?_
              try simp only [Act.put, List.setIfInBounds_toArray, List.set_cons_zero, List.set_cons_succ]
              refine wpAnyT_one 1 _ (by kernel_rfl) (by kernel_rfl) (by rfl) (fun K' hK' => ?_)
              rw [if_pos (by rfl)]
              go_wp2_with fail
              refine (IsSorted_up W17 A15 c15 cg HC17.out.2 (by rw [← HCGE.out]; exact HVL2.out)).mono ?_
              rintro e W18 ⟨rfl, hb18⟩
              have HV18 := Lib.hid (HV17.out.below hb18)
              have HB18 := Lib.hid (bvia HB17.out hb18 (Nat.le_refl _))
              have HU18 := Lib.hid (HU17.out.trans (Upd.any hb18 (F := fun k => ¬ R k)) fun i hi => .inl hi)
              have HC18 := Lib.hid (And.intro (belowBox hb18 HC17.out.1) (HC17.out.2.below hb18))
              have hS18 : W18.cell? ⟨vc, 0, none⟩ = some (.slice A15 cg.length c15) ∧ W18.cell? ⟨vb, 0, none⟩ = some (.pointer (some ⟨mb, 0, none⟩)) := ⟨bkeep hb18 hS.1, bkeep hb18 hS.2⟩
              clear hb18 hS
              refine hK'.out _ _ hS18 ?_
              clear hK' K'
              try simp only [Act.put, List.setIfInBounds_toArray, List.set_cons_zero, List.set_cons_succ]
              refine wpAnyT_takeN 2 _ (.bool true) (by rfl) (by kernel_rfl) (by kernel_rfl) (by kernel_rfl) (by kernel_rfl) (fun _ _ _ h => h) (Or.inl ⟨by rfl, fun W' hW' => by kernel_rfl⟩) hS18 ?_
              try simp only [Act.put, List.setIfInBounds_toArray, List.set_cons_zero, List.set_cons_succ]
              refine wpAnyT_takeN 3 _ (.func (.func 46) #[] #[.pointer (some ⟨vc, 0, none⟩)]) (by rfl) (by kernel_rfl) (by kernel_rfl) (by kernel_rfl) (by kernel_rfl) (fun _ _ _ h => h) (Or.inl ⟨by rfl, fun W' hW' => by kernel_rfl⟩) hS18 ?_
              try simp only [Act.put, List.setIfInBounds_toArray, List.set_cons_zero, List.set_cons_succ]
              refine wpAnyT_takeN 4 _ (.slice Ao po.length co) (by rfl) (by kernel_rfl) (by kernel_rfl) (by kernel_rfl) (by kernel_rfl) (fun _ _ _ h => h) (Or.inl ⟨by rfl, fun W' hW' => by kernel_rfl⟩) hS18 ?_
              try simp only [Act.put, List.setIfInBounds_toArray, List.set_cons_zero, List.set_cons_succ]
              refine wpAnyT_takeN 6 _ (.func (.func 46) #[] #[.pointer (some ⟨vc, 0, none⟩)]) (by rfl) (by kernel_rfl) (by kernel_rfl) (by kernel_rfl) (by kernel_rfl) (fun _ _ _ h => h) (Or.inl ⟨by rfl, fun W' hW' => by kernel_rfl⟩) hS18 ?_
              try simp only [Act.put, List.setIfInBounds_toArray, List.set_cons_zero, List.set_cons_succ]
              refine wpAnyT_takeN 7 _ (.pointer (some ⟨mb, 0, none⟩)) (by rfl) (by kernel_rfl) (by kernel_rfl) (by kernel_rfl) (by kernel_rfl) (fun _ _ _ h => h) (Or.inl ⟨by rfl, fun W' hW' => by obtain ⟨s0, s1⟩ := hW'; go_simp⟩) hS18 ?_
              try simp only [Act.put, List.setIfInBounds_toArray, List.set_cons_zero, List.set_cons_succ]
              refine wpAnyT_one 5 _ (by kernel_rfl) (by kernel_rfl) (by rfl) (fun K' hK' => ?_)
              rw [if_pos (by rfl)]
              have hro : W18.ownsRow W10.heap.size 79 3 (.slice Ao po.length co) po.length (flat po) := own_upd HOLD12.out.1 HU18.out fun k hk hf => by
                have := HOLD12.out.1.lt k hk
                exact hf (HRK.out k this.1 this.2)
              have HBO := Lib.hid (show BytesAt W18 W10.heap.size po from fun p hp => by
                obtain ⟨q1, q2, q3⟩ := HOLD12.out.2.2 p hp
                exact ⟨q1.upd0 HU18.out fun h0 ad e hf => hf (HRK.out _ (q3 ad e) (q1.old (by rw [Nat.mul_one]; exact h0) ad e)), q2, q3⟩)
              have HLE := Lib.hid (left_any W18 W10.heap.size _ po vc cg hro (by have := HPK.out.le; omega) ⟨_, _, HC18.out⟩ (Array.getElem?_eq_some_iff.1 HC18.out.1).1 (fun A' c' he ad e h0 => by
                rw [HC18.out.1] at he
                have this : A15 = A' ∧ c15 = c' := by simpa using he
                obtain ⟨rfl, rfl⟩ := this
                exact HC18.out.2.old (by omega) ad e))
              clear hro
              go_wp2_with fail
              refine HLE.out.mono ?_
              rintro e W19 ⟨⟨Al, cl, rfl, rdl, newl⟩, hb19⟩
              have HV19 := Lib.hid (HV18.out.below hb19)
              have HB19 := Lib.hid (bvia HB18.out hb19 (Nat.le_refl _))
              have HC19 := Lib.hid (And.intro (belowBox hb19 HC18.out.1) (HC18.out.2.below hb19))
              have HO19 := Lib.hid (And.intro rdl (HBO.out.below hb19))
              have hS19 : W19.cell? ⟨vc, 0, none⟩ = some (.slice A15 cg.length c15) ∧ W19.cell? ⟨vb, 0, none⟩ = some (.pointer (some ⟨mb, 0, none⟩)) := ⟨bkeep hb19 hS18.1, bkeep hb19 hS18.2⟩
              obtain ⟨LO, hLO⟩ : ∃ LO, leftP cg po = LO := ⟨_, rfl⟩
              rw [hLO] at HO19 ⊢
              have HLO := Lib.hid hLO
              clear hb19 hS18 rdl newl hLO HLE
              refine hK'.out _ _ hS19 ?_
              clear hK' K'
              try simp only [Act.put, List.setIfInBounds_toArray, List.set_cons_zero, List.set_cons_succ]
              refine wpAnyT_one 8 _ (by kernel_rfl) (by kernel_rfl) (by rfl) (fun K' hK' => ?_)
              rw [if_pos (by rfl)]
              go_wp2_with fail
              refine HV19.out.m.SaveO.mono ?_
              rintro e W20 ⟨⟨vn, pn, rfl, rown, seen, byn⟩, hb20⟩
              have HPN := Lib.hid (HV19.out.m.psOk seen)
              have HB20 := Lib.hid (bvia HB19.out hb20 (Nat.le_refl _))
              have HC20 := Lib.hid (And.intro (belowBox hb20 HC19.out.1) (HC19.out.2.below hb20))
              have HO20 := Lib.hid (And.intro (HO19.out.1.below hb20) (HO19.out.2.below hb20))
              have hS20 : W20.cell? ⟨vc, 0, none⟩ = some (.slice A15 cg.length c15) ∧ W20.cell? ⟨vb, 0, none⟩ = some (.pointer (some ⟨mb, 0, none⟩)) := ⟨bkeep hb20 hS19.1, bkeep hb20 hS19.2⟩
              obtain ⟨An, cn, rfl, _⟩ := own_rd rown
              have HN20 := Lib.hid (And.intro rown (And.intro seen byn))
              clear hb20 hS19 rown seen byn
              refine hK'.out _ _ hS20 ?_
              clear hK' K'
              try simp only [Act.put, List.setIfInBounds_toArray, List.set_cons_zero, List.set_cons_succ]
              refine wpAnyT_one 9 _ (by kernel_rfl) (by kernel_rfl) (by rfl) (fun K' hK' => ?_)
              rw [if_pos (by rfl)]
              have HLF := Lib.hid (left_any W20 W19.heap.size _ pn vc cg HN20.out.1 (by have := HPN.out.le; omega) ⟨_, _, HC20.out⟩ (Array.getElem?_eq_some_iff.1 HC20.out.1).1 (fun A' c' he ad e h0 => by
                rw [HC20.out.1] at he
                have this : A15 = A' ∧ c15 = c' := by simpa using he
                obtain ⟨rfl, rfl⟩ := this
                exact HC20.out.2.old (by omega) ad e))
              go_wp2_with fail
              refine HLF.out.mono ?_
              rintro e W21 ⟨⟨Am, cm, rfl, rdm, newm⟩, hb21⟩
              have HB21 := Lib.hid (bvia HB20.out hb21 (Nat.le_refl _))
              have hS21 : W21.cell? ⟨vc, 0, none⟩ = some (.slice A15 cg.length c15) ∧ W21.cell? ⟨vb, 0, none⟩ = some (.pointer (some ⟨mb, 0, none⟩)) := ⟨bkeep hb21 hS20.1, bkeep hb21 hS20.2⟩
              obtain ⟨LN, hLN⟩ : ∃ LN, leftP cg pn = LN := ⟨_, rfl⟩
              rw [hLN] at rdm ⊢
              have HSP := Lib.hid (SamePages_any W21 Al Am cl cm LO LN (HO20.out.1.below hb21) rdm (fun p hp => by rw [← HLO.out] at hp; have q := (HO20.out.2.below hb21).zero p (leftP_sub hp); exact q) (fun p hp => by rw [← hLN] at hp; have q := (HN20.out.2.2.below hb21).zero p (leftP_sub hp); exact q) (fun p hp => by rw [← HLO.out] at hp; exact (HPK.out.ok p (leftP_sub hp)).u8) (fun p hp => by rw [← hLN] at hp; exact (HPN.out.ok p (leftP_sub hp)).u8))
              rw [sameP_of (by rw [← HLO.out, ← hLN, leftP_see, leftP_see, HOLD12.out.2.1, HN20.out.2.1, ← HCGE.out]; exact left_see HRE.out HUPA.out HV19.out.m.up)] at HSP
              clear hb21 hS20 rdm newm hLN HLF
              refine hK'.out _ _ hS21 ?_
              clear hK' K'
              try simp only [Act.put, List.setIfInBounds_toArray, List.set_cons_zero, List.set_cons_succ]
              refine wpAnyT_one 10 _ (by kernel_rfl) (by kernel_rfl) (by rfl) (fun K' hK' => ?_)
              rw [if_pos (by rfl)]
              go_wp2_with fail
              refine HSP.out.mono ?_
              rintro e W22 ⟨rfl, hb22⟩
              have HB22 := Lib.hid (bvia HB21.out hb22 (Nat.le_refl _))
              have hS22 : W22.cell? ⟨vc, 0, none⟩ = some (.slice A15 cg.length c15) ∧ W22.cell? ⟨vb, 0, none⟩ = some (.pointer (some ⟨mb, 0, none⟩)) := ⟨bkeep hb22 hS21.1, bkeep hb22 hS21.2⟩
              clear hb22 hS21 HSP
              refine hK'.out _ _ hS22 ?_
              clear hK' K'
              try simp only [Act.put, List.setIfInBounds_toArray, List.set_cons_zero, List.set_cons_succ]
              refine wpAnyT_takeN 11 _ (.bool true) (by rfl) (by kernel_rfl) (by kernel_rfl) (by kernel_rfl) (by kernel_rfl) (fun _ _ _ h => h) (Or.inl ⟨by rfl, fun W' hW' => by kernel_rfl⟩) hS22 ?_
              try simp only [Act.put, List.setIfInBounds_toArray, List.set_cons_zero, List.set_cons_succ]
              refine wpAnyT_takeN 12 _ (.bool true) (by rfl) (by kernel_rfl) (by kernel_rfl) (by kernel_rfl) (by kernel_rfl) (fun _ _ _ h => h) (Or.inl ⟨by rfl, fun W' hW' => by kernel_rfl⟩) hS22 ?_
              try simp only [Act.put, List.setIfInBounds_toArray, List.set_cons_zero, List.set_cons_succ]
              refine ⟨by kernel_rfl, ?_⟩
              simp only [normalQ]
              clear hS22
              simp only [List.getElem_toArray, List.getElem_cons_succ, List.getElem_cons_zero, Act.put, List.setIfInBounds_toArray, List.set_cons_zero, List.set_cons_succ]
              refine noPanic_mk ?_
              go_wp2_with fail
              go_ret
              exact ⟨rfl, HB22.out⟩
  · have HB3 := Lib.hid (bvia HB2.out (balloc W2 (.cells #[.pointer none] 25)) (Nat.le_refl _))
    have HI := Lib.hid (IsPages_any (W2.alloc (.cells #[.pointer none] 25)) A c ps (HP.out.below HB3.out).rd)
    cases hisp : isP ps with
    | false =>
      rw [hisp] at HI
      clear hisp hnot
      go_wp2_with fail
      refine HI.out.mono ?_
      rintro e W4 ⟨rfl, hb4⟩
      have HB4 := Lib.hid (bvia HB3.out hb4 (Nat.le_refl _))
      clear hb4
      go_wp2_with fail
      go_ret
      exact ⟨rfl, HB4.out⟩
    | true =>
      have hc20 : (ps.length : Int) > 20 := by
        rcases Nat.lt_or_ge 20 ps.length with h | h
        · omega
        · exact absurd ⟨h, hisp⟩ hnot
      rw [hisp] at HI
      clear hisp hnot
      go_wp2_with fail
      refine HI.out.mono ?_
      rintro e W4 ⟨rfl, hb4⟩
      have HB4 := Lib.hid (bvia HB3.out hb4 (Nat.le_refl _))
      clear hb4
      go_wp2_with fail
      go_ret
      exact ⟨rfl, HB4.out⟩
end Go.Proofs.Ytidojcogojchpaa
