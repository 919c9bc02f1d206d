/- mem's laws: MemWhole. -/
import Derived.Test.YtidojcogojchpaaM04
import Derived.Laws.StructEq
import Derived.Stop.BytesEq
import Derived.LaidEqlPtr
import Derived.Lib.AppendZerosOnto
set_option linter.unusedVariables false
set_option linter.unusedSimpArgs false
namespace Go.Proofs.Ytidojcogojchpaa
open Go.RowKit Go.Shelf

/-- What was poked is read. -/
theorem bytesN_poke (A : PM) (at_ : Int) (bs : List Int) (h0 : 0 ≤ at_ ∧ at_ < 4294967296) (hl : bs.length ≤ 65536) : bytesN (A.poke at_ bs bs.length) at_ bs.length = bs := by
  refine list_gi (bytesN_len _ _ _) fun j hj => ?_
  rw [bytesN_len] at hj
  have hm0 := Int.emod_nonneg (pcAt at_ (j : Int)) (show (256 : Int) ≠ 0 by omega)
  have hm1 := Int.emod_lt_of_pos (pcAt at_ (j : Int)) (show (0 : Int) < 256 by omega)
  have e1 : gi (bytesN (A.poke at_ bs bs.length) at_ bs.length) j = byteAt (A.poke at_ bs bs.length) (pcAt at_ (j : Int)) := by
    rw [gi_get _ _ (by rw [bytesN_len]; exact hj)]
    simp [bytesN]
  rw [e1]
  unfold byteAt
  show gi (pokeB A at_ bs bs.length (pcAt at_ (j : Int) / 256)) _ = _
  rw [pokeB_gi _ _ _ _ _ _ (by omega)]
  have e2 : (pcAt at_ (j : Int) / 256 * 256 + ((pcAt at_ (j : Int) % 256).toNat : Int) - at_) % 4294967296 = (j : Int) := by
    rw [Int.toNat_of_nonneg hm0]
    unfold pcAt
    omega
  rw [e2, if_pos (by omega)]
  simp
theorem wr_true {A : PM} {need at_ : Int} {n : Nat} (h : wrB A need at_ n = true) : allOk A need at_ n ∧ n ≤ 65536 := by
  unfold wrB at h
  split at h
  · cases h
  · exact ⟨firstBad_all (by simpa using h), by omega⟩
theorem bits_zero (x : Int) (h : 0 ≤ x ∧ x ≤ 7) : bits .and .i64 x 0 = 0 := by
  have : x = 0 ∨ x = 1 ∨ x = 2 ∨ x = 3 ∨ x = 4 ∨ x = 5 ∨ x = 6 ∨ x = 7 := by omega
  rcases this with rfl | rfl | rfl | rfl | rfl | rfl | rfl | rfl <;> rfl
theorem peek_poked {A : PM} {at_ need : Int} {bs : List Int} (h0 : 0 ≤ at_ ∧ at_ < 4294967296) (hr : ∀ n ∈ A.ks, 0 ≤ (A.pg n).r ∧ (A.pg n).r ≤ 7) (h : wrB A need at_ bs.length = true) :
    rdB (wrM A need at_ bs) 0 at_ bs.length = true ∧ rdL (wrM A need at_ bs) 0 at_ bs.length = bs := by
  obtain ⟨hok, hl⟩ := wr_true h
  have e : wrM A need at_ bs = A.poke at_ bs bs.length := by unfold wrM; exact if_pos h
  have hok' : allOk (A.poke at_ bs bs.length) 0 at_ bs.length := fun i i0 i1 => ⟨(hok i i0 i1).1, bits_zero _ (hr _ (hok i i0 i1).1)⟩
  obtain ⟨r1, r2, r3⟩ := rd_ok (A := A.poke at_ bs bs.length) (need := 0) (at_ := at_) (n := bs.length) (by omega) (by omega) hok'
  rw [e]
  refine ⟨r2, r3.trans ?_⟩
  rw [Int.toNat_natCast]
  exact bytesN_poke A at_ bs h0 hl
theorem M1.rights {B : Nat} {W : World} {b : Nat} {A : PM} (h : M1 B W b A) : ∀ n ∈ A.ks, 0 ≤ (A.pg n).r ∧ (A.pg n).r ≤ 7 := by
  obtain ⟨S, h1, _⟩ := h.ex
  exact fun n hn => (h1.mem.page n hn).2.r
theorem M1.right {B : Nat} {W : World} {b : Nat} {A : PM} (h : M1 B W b A) (at_ need : Int) (n : Nat) (ha : 0 ≤ at_ ∧ at_ < 4294967296) (hn : n ≤ 65536) (hnd : 0 ≤ need ∧ need ≤ 7) :
    Calls Try.prog 22 #[.pointer (some ⟨b, 0, none⟩), .int .u32 at_, .int .i64 n, .int .i64 need] W fun e w' => e = .returned (.tuple #[.int .u32 (wrA A need at_ n), .bool (wrB A need at_ n)]) ∧ Below W.heap.size W w' := by
  obtain ⟨S, h1, _⟩ := h.ex
  exact right_any W b S A at_ need n h1.mem ha hn hnd
theorem BytesAt.zero {W : World} {B : Nat} {ps : List PV} (h : BytesAt W B ps) : BytesAt W 0 ps := fun p hp => ⟨(h p hp).1, (h p hp).2.1, fun _ _ => Nat.zero_le _⟩
theorem sameP_of {ps qs : List PV} (h : ps.map PV.see = qs.map PV.see) : sameP ps qs = true := decide_eq_true h

set_option maxRecDepth 1000000 in
set_option maxHeartbeats 8000000 in
theorem whole_any (A : Option Addr) (c : Nat) (ps : List PV) (at_ : Int) (D : Option Addr) (cd : Nat) (bs : List Int) (w : World) (hp : PsIn w A c ps) (ha : 0 ≤ at_ ∧ at_ < 4294967296) (hb : BsIn w D cd bs) :
    Calls Try.prog 4 #[.slice A ps.length c, .int .u32 at_, .slice D bs.length cd] w fun e w' => e = .returned (.bool true) ∧ Below w.heap.size w w' := by
  have HP := Lib.hid hp
  have HBS := Lib.hid hb
  have hlen := hp.rd.le
  have hlb := hb.le
  have hcb := hb.cap
  clear hp hb
  go_enter Try.func4, Try.ntmps4
  go_wp2_with fail
  refine (sane_any w).mono ?_
  rintro e W1 ⟨rfl, hb1⟩
  have HB1 := Lib.hid hb1
  have HP1 := Lib.hid (HP.out.below hb1)
  clear hb1
  go_wp2_with fail
  refine (loaded_any W1 A c ps HP1.out.rd HP1.out.by_ HP1.out.u8).mono ?_
  rintro e W2 ⟨hb2, hres⟩
  have HB2 := Lib.hid (bvia HB1.out hb2 (Nat.le_refl _))
  have HP2 := Lib.hid (HP1.out.below hb2)
  have HI := Lib.hid (IsPages_any W2 A c ps (HP1.out.below hb2).rd)
  clear hb2
  rcases hres with ⟨⟨hl20, hisp⟩, mb, rfl, hld⟩ | ⟨hnot, rfl⟩
  · rw [hisp] at HI
    have hc20 : ¬ (ps.length : Int) > 20 := by omega
    have HPO := Lib.hid (psOk_of hisp HP1.out.u8 (by omega))
    have HM := Lib.hid hld.m1.1
    clear hisp hld
    by_cases hbl : bs.length ≤ 2000
    · have hcb2 : ¬ (bs.length : Int) > 2000 := by omega
      go_wp2_with fail
      refine (HM.out.right at_ 2 bs.length ha (by omega) (by omega)).mono ?_
      rintro e W3 ⟨rfl, hb3⟩
      have HM3 := Lib.hid (HM.out.below hb3)
      have HB3 := Lib.hid (bvia HB2.out hb3 (Nat.le_refl _))
      have hs3 : w.heap.size ≤ W1.heap.size := HB1.out.size
      clear hb3
      go_wp2_with fail
      refine (HM3.out.Write0 at_ bs D cd ha hcb ((HBS.out.below HB3.out).rd) HBS.out.u8 fun h0 ad e => by have := HBS.out.rd.old (by omega) ad e; omega).mono ?_
      rintro e W4 ⟨rfl, m4, hb4⟩
      have HM4 := Lib.hid m4
      have HB4 := Lib.hid (HB3.out.trans (hb4.mono hs3))
      obtain ⟨wa, hwa⟩ : ∃ x, wrA (ldM ps) 2 at_ bs.length = x := ⟨_, rfl⟩
      rw [hwa]
      cases hwb : wrB (ldM ps) 2 at_ bs.length with
      | false =>
        have HWM : Hid (wrM (ldM ps) 2 at_ bs = ldM ps) := Lib.hid (by unfold wrM; rw [hwb]; rfl)
        clear m4 hb4 hwa hwb
        go_wp2_with fail
        refine (HM4.out.Save).mono ?_
        rintro e W5 ⟨⟨A5, c5, qs, rfl, rd5, new5, see5, by5, u5⟩, hb5⟩
        rw [HWM.out, save_load ps HPO.out] at see5
        have HB5 := Lib.hid (bvia HB4.out hb5 (Nat.le_refl _))
        have HSP := Lib.hid (SamePages_any W5 A5 A c5 c qs ps rd5 ((HP.out.below HB5.out).rd) by5.zero (HP.out.below HB5.out).by_ u5 HP.out.u8)
        rw [sameP_of see5] at HSP
        clear rd5 new5 see5 by5 u5 hb5
        go_wp2_with fail
        refine HSP.out.mono ?_
        rintro e W6 ⟨rfl, hb6⟩
        have HB6 := Lib.hid (bvia HB5.out hb6 (Nat.le_refl _))
        clear hb6
        go_wp2_with fail
        go_ret
        exact ⟨rfl, HB6.out⟩
      | true =>
        have HPK := Lib.hid (peek_poked ha HM.out.rights hwb)
        clear m4 hb4 hwa hwb
        go_wp2_with fail
        refine (HM4.out.Peek at_ bs.length ha).mono ?_
        rintro e W5 ⟨⟨A5, c5, rfl, rd5, hc5, new5⟩, hb5, u5⟩
        have HB5 := Lib.hid (bvia HB4.out hb5 (Nat.le_refl _))
        rw [HPK.out.1, HPK.out.2]
        rw [HPK.out.2] at rd5
        have R5 := Lib.hid rd5
        clear rd5 hc5 new5 u5 hb5
        obtain ⟨ra, hra⟩ : ∃ x, rdA (wrM (ldM ps) 2 at_ bs) 0 at_ bs.length = x := ⟨_, rfl⟩
        rw [hra]
        clear hra
        go_wp2_with fail
        refine (Equal_bytes W5 A5 D bs bs c5 cd R5.out ((HBS.out.below HB5.out).rd) HBS.out.u8 HBS.out.u8).mono ?_
        rintro e W6 ⟨rfl, rfl⟩
        rw [show decide (bs = bs) = true from decide_eq_true rfl]
        go_wp2_with fail
        go_ret
        exact ⟨rfl, HB5.out⟩
    · have hcb2 : (bs.length : Int) > 2000 := by omega
      go_wp2_with fail
      refine HI.out.mono ?_
      rintro e W3 ⟨rfl, hb3⟩
      have HB3 := Lib.hid (bvia HB2.out hb3 (Nat.le_refl _))
      clear hb3
      go_wp2_with fail
      go_ret
      exact ⟨rfl, HB3.out⟩
  · cases hisp : isP ps with
    | false =>
      rw [hisp] at HI
      clear hisp hnot
      go_wp2_with fail
      refine HI.out.mono ?_
      rintro e W3 ⟨rfl, hb3⟩
      have HB3 := Lib.hid (bvia HB2.out hb3 (Nat.le_refl _))
      clear hb3
      go_wp2_with fail
      go_ret
      exact ⟨rfl, HB3.out⟩
    | true =>
      have hc20 : (ps.length : Int) > 20 := by
        rcases Nat.lt_or_ge 20 ps.length with h | h
        · omega
        · exact absurd ⟨h, hisp⟩ hnot
      rw [hisp] at HI
      clear hisp hnot
      go_wp2_with fail
      refine HI.out.mono ?_
      rintro e W3 ⟨rfl, hb3⟩
      have HB3 := Lib.hid (bvia HB2.out hb3 (Nat.le_refl _))
      clear hb3
      go_wp2_with fail
      go_ret
      exact ⟨rfl, HB3.out⟩
end Go.Proofs.Ytidojcogojchpaa

/- mem's laws: few. -/
set_option linter.unusedVariables false
set_option linter.unusedSimpArgs false
namespace Go.Proofs.Ytidojcogojchpaa
open Go.RowKit Go.Shelf

def fwA (n : Int) (x : CV) : Int := wrap64 (n + x.bs.length)
def fwB (n : Int) (x : CV) : Int := if 0 < x.n ∧ x.n ≤ 65536 then wrap64 (fwA n x + x.n) else fwA n x
def fwP (p : Int) (x : CV) : Int := if x.kind = 0 ∧ 0 < x.n ∧ x.n ≤ 2000 then wrap64 (p + x.n) else p
def fwN (xs : List CV) : Int := xs.foldl fwB 0
def fwQ (xs : List CV) : Int := xs.foldl fwP 0
def fewB (xs : List CV) : Bool := decide (xs.length ≤ 60 ∧ fwN xs ≤ 200000 ∧ fwQ xs ≤ 3000)
theorem fwN_snoc (xs : List CV) (k : Nat) (hk : k < xs.length) : fwN (xs.take (k + 1)) = fwB (fwN (xs.take k)) (gx xs k) := by
  rw [List.take_succ_eq_append_getElem hk, fwN, List.foldl_append, gx_get xs k hk]; rfl
theorem fwQ_snoc (xs : List CV) (k : Nat) (hk : k < xs.length) : fwQ (xs.take (k + 1)) = fwP (fwQ (xs.take k)) (gx xs k) := by
  rw [List.take_succ_eq_append_getElem hk, fwQ, List.foldl_append, gx_get xs k hk]; rfl
set_option maxRecDepth 100000 in
set_option maxHeartbeats 4000000 in
theorem few_any (W : World) (A : Option Addr) (c : Nat) (xs : List CV) (h : CsIn W A c xs) :
    Calls Try.prog 32 #[.slice A xs.length c] W fun e w' => e = .returned (.bool (fewB xs)) ∧ Below W.heap.size W w' := by
  have hcp := h.cap
  have hle := h.le
  have H := Lib.hid h
  clear h
  go_enter Try.func32, Try.ntmps32
  go_wp2_with fail
  go_loopw [3, 4, 9] (fun n p i wr => ∃ k : Nat, k ≤ xs.length ∧ i = .int .i64 k ∧ n = .int .i64 (fwN (xs.take k)) ∧ p = .int .i64 (fwQ (xs.take k)) ∧ Hid (Below W.heap.size W wr)) (fun _ _ i _ => xs.length - (intOf i).toNat)
  case atStart => exact ⟨0, Nat.zero_le _, rfl, rfl, rfl, Lib.hid (Below.refl _ _)⟩
  case round =>
    obtain ⟨k, hk, rfl, rfl, rfl, hI⟩ := hrel
    by_cases hlt : k < xs.length
    · obtain ⟨ad, rfl, hx⟩ := (H.out.below hI.out).at k hlt
      obtain ⟨x0, x1, x2, x3, x4, x5⟩ := hx
      have hN := fwN_snoc xs k hlt
      have hQ := fwQ_snoc xs k hlt
      obtain ⟨n0, hn0⟩ : ∃ n0, fwN (xs.take k) = n0 := ⟨_, rfl⟩
      obtain ⟨p0, hp0⟩ : ∃ p0, fwQ (xs.take k) = p0 := ⟨_, rfl⟩
      rw [hn0] at hN ⊢
      rw [hp0] at hQ ⊢
      obtain ⟨X, hX⟩ : ∃ X, gx xs k = X := ⟨_, rfl⟩
      rw [hX] at x0 x1 x2 x3 x4 x5 hN hQ
      obtain ⟨kind, pg, n, rt, a, Ab, cb, bs⟩ := X
      obtain ⟨W5, hW5⟩ : ∃ W5, wr.alloc (.cells #[.int .i64 kind, .int .i64 pg, .int .i64 n, .int .i64 rt, .int .u32 a, .slice Ab bs.length cb] 54) = W5 := ⟨_, rfl⟩
      have h5 : W5.heap[wr.heap.size]? = some (.cells #[.int .i64 kind, .int .i64 pg, .int .i64 n, .int .i64 rt, .int .u32 a, .slice Ab bs.length cb] 54 (0, 0)) := by rw [← hW5]; exact heap_alloc_new wr _
      have hb5 : Below wr.heap.size wr W5 := by rw [← hW5]; exact balloc wr _
      have y0 : W5.cell? ⟨wr.heap.size, 0, none⟩ = some (.int .i64 kind) := by simp [World.cell?, h5]
      have y2 : W5.cell? ⟨wr.heap.size, 2, none⟩ = some (.int .i64 n) := by simp [World.cell?, h5]
      have y5 : W5.cell? ⟨wr.heap.size, 5, none⟩ = some (.slice Ab bs.length cb) := by simp [World.cell?, h5]
      have HB5 := Lib.hid (hI.out.trans (hb5.mono hI.out.size))
      have HN := Lib.hid hN
      have HQ := Lib.hid hQ
      clear h5 hb5 hN hQ hn0 hp0 hX
      go_wp2_with fail
      all_goals
        refine ⟨⟨k + 1, by omega, by go_num, ?_, ?_, HB5⟩, by simp [intOf]; omega⟩
        · rw [HN.out]
          simp only [fwB, fwA]
          first
            | (rw [if_pos (c := 0 < n ∧ n ≤ 65536) (by omega)])
            | (rw [if_neg (c := 0 < n ∧ n ≤ 65536) (by omega)])
        · rw [HQ.out]
          simp only [fwP]
          first
            | (rw [if_pos (c := kind = 0 ∧ 0 < n ∧ n ≤ 2000) (by omega)])
            | (rw [if_neg (c := kind = 0 ∧ 0 < n ∧ n ≤ 2000) (by omega)])
    · obtain rfl : k = xs.length := by omega
      rw [List.take_length]
      obtain ⟨n0, hn0⟩ : ∃ n0, fwN xs = n0 := ⟨_, rfl⟩
      obtain ⟨p0, hp0⟩ : ∃ p0, fwQ xs = p0 := ⟨_, rfl⟩
      rw [hn0, hp0]
      have HF : Hid (fewB xs = decide (xs.length ≤ 60 ∧ n0 ≤ 200000 ∧ p0 ≤ 3000)) := Lib.hid (by unfold fewB; rw [hn0, hp0])
      clear hn0 hp0
      go_wp2_with fail
      all_goals
        go_ret
        rw [HF.out]
        refine ⟨?_, hI.out⟩
        first
          | exact congrArg (fun x => Ending.returned (Value.bool x)) (show decide (p0 ≤ 3000) = decide (xs.length ≤ 60 ∧ n0 ≤ 200000 ∧ p0 ≤ 3000) from decide_eq_decide.2 (by omega))
          | exact congrArg (fun x => Ending.returned (Value.bool x)) (show false = decide (xs.length ≤ 60 ∧ n0 ≤ 200000 ∧ p0 ≤ 3000) from (decide_eq_false (by omega)).symm)
end Go.Proofs.Ytidojcogojchpaa

/- mem's laws: MemClones. -/
set_option linter.unusedVariables false
set_option linter.unusedSimpArgs false
namespace Go.Proofs.Ytidojcogojchpaa
open Go.RowKit Go.Shelf

theorem ldM_cg (ps : List PV) : (ldM ps).cg = [] := by
  unfold ldM
  suffices h : ∀ (L : List PV) (A : PM), (L.foldl (fun A p => A.put p.n ⟨p.r, p.bs⟩) A).cg = A.cg from h ps PM.new
  intro L
  induction L with
  | nil => intro A; rfl
  | cons p L ih => intro A; rw [List.foldl_cons, ih]; rfl
/-- What the loop carries. -/
def ClI (w : World) (B b : Nat) (A : PM) (v : Value) (V : World) : Prop := ∃ c C, v = .pointer (some ⟨c, 0, none⟩) ∧ M2 B V b A c C ∧ Below w.heap.size w V
set_option maxRecDepth 1000000 in
set_option maxHeartbeats 8000000 in
theorem clones_any (A : Option Addr) (c : Nat) (ps : List PV) (D : Option Addr) (cd : Nat) (xs : List CV) (w : World) (hp : PsIn w A c ps) (hx : CsIn w D cd xs) :
    Calls Try.prog 7 #[.slice A ps.length c, .slice D xs.length cd] w fun e w' => e = .returned (.bool true) ∧ Below w.heap.size w w' := by
  have HP := Lib.hid hp
  have HX := Lib.hid hx
  have hlen := hp.rd.le
  have hcx := hx.cap
  have hlx := hx.le
  clear hp hx
  go_enter Try.func7, Try.ntmps7
  go_wp2_with fail
  refine (sane_any w).mono ?_
  rintro e W1 ⟨rfl, hb1⟩
  have HB1 := Lib.hid hb1
  have HP1 := Lib.hid (HP.out.below hb1)
  clear hb1
  go_wp2_with fail
  refine (loaded_any W1 A c ps HP1.out.rd HP1.out.by_ HP1.out.u8).mono ?_
  rintro e W2 ⟨hb2, hres⟩
  have HB2 := Lib.hid (bvia HB1.out hb2 (Nat.le_refl _))
  clear hb2
  rcases hres with ⟨⟨hl20, hisp⟩, mb, rfl, hld⟩ | ⟨hnot, rfl⟩
  · have hc20 : ¬ (ps.length : Int) > 20 := by omega
    have HPO := Lib.hid (psOk_of hisp HP1.out.u8 (by omega))
    have HM := Lib.hid hld.m1.1
    have HISP := Lib.hid hisp
    clear hisp hld
    have HFW := Lib.hid (few_any W2 D cd xs (HX.out.below HB2.out))
    cases hfw : fewB xs with
    | false =>
      rw [hfw] at HFW
      go_wp2_with fail
      refine HFW.out.mono ?_
      rintro e W3 ⟨rfl, hb3⟩
      have HB3 := Lib.hid (bvia HB2.out hb3 (Nat.le_refl _))
      clear hb3
      have HI := Lib.hid (IsPages_any W3 A c ps (HP.out.below HB3.out).rd)
      rw [HISP.out] at HI
      go_wp2_with fail
      refine HI.out.mono ?_
      rintro e W4 ⟨rfl, hb4⟩
      have HB4 := Lib.hid (bvia HB3.out hb4 (Nat.le_refl _))
      clear hb4
      have HFW4 := Lib.hid (few_any W4 D cd xs (HX.out.below HB4.out))
      rw [hfw] at HFW4
      clear hfw HFW
      go_wp2_with fail
      refine HFW4.out.mono ?_
      rintro e W5 ⟨rfl, hb5⟩
      have HB5 := Lib.hid (bvia HB4.out hb5 (Nat.le_refl _))
      clear hb5
      go_wp2_with fail
      go_ret
      exact ⟨rfl, HB5.out⟩
    | true =>
      rw [hfw] at HFW
      clear hfw
      go_wp2_with fail
      refine HFW.out.mono ?_
      rintro e W3 ⟨rfl, hb3⟩
      have HM3 := Lib.hid (HM.out.below hb3)
      have HB3 := Lib.hid (bvia HB2.out hb3 (Nat.le_refl _))
      have hs3 : w.heap.size ≤ W1.heap.size := HB1.out.size
      clear hb3 HFW
      go_wp2_with fail
      refine HM3.out.Clone.mono ?_
      rintro e W4 ⟨k0, rfl, m4, hb4⟩
      have HI4 : Hid (ClI w W1.heap.size mb (ldM ps) (.pointer (some ⟨k0, 0, none⟩)) W4) := Lib.hid ⟨k0, _, rfl, m4, HB3.out.trans (hb4.mono hs3)⟩
      clear m4 hb4
      go_wp2_with fail
      go_loopw [7, 41] (fun v i wr => ∃ k : Nat, k ≤ xs.length ∧ i = .int .i64 k ∧ Hid (ClI w W1.heap.size mb (ldM ps) v wr)) (fun _ i _ => xs.length - (intOf i).toNat)
      case atStart => exact ⟨0, Nat.zero_le _, rfl, HI4⟩
      case round =>
        obtain ⟨k, hk, rfl, hI⟩ := hrel
        obtain ⟨kc, C, rfl, m5, hb5⟩ := hI.out
        by_cases hlt : k < xs.length
        · have hXk := HX.out.ok _ (gx_mem xs k hlt)
          obtain ⟨ad, rfl, x0, x1, x2, x3, x4, x5⟩ := (HX.out.below hb5).at k hlt
          obtain ⟨X, hX⟩ : ∃ X, gx xs k = X := ⟨_, rfl⟩
          rw [hX] at x0 x1 x2 x3 x4 x5 hXk
          obtain ⟨kind, pg, n, rt, a, Ab, cb, bs⟩ := X
          obtain ⟨W5, hW5⟩ : ∃ W5, wr.alloc (.cells #[.int .i64 kind, .int .i64 pg, .int .i64 n, .int .i64 rt, .int .u32 a, .slice Ab bs.length cb] 54) = W5 := ⟨_, rfl⟩
          have h5 : W5.heap[wr.heap.size]? = some (.cells #[.int .i64 kind, .int .i64 pg, .int .i64 n, .int .i64 rt, .int .u32 a, .slice Ab bs.length cb] 54 (0, 0)) := by rw [← hW5]; exact heap_alloc_new wr _
          have hbw : Below wr.heap.size wr W5 := by rw [← hW5]; exact balloc wr _
          have y0 : W5.cell? ⟨wr.heap.size, 0, none⟩ = some (.int .i64 kind) := by simp [World.cell?, h5]
          have y1 : W5.cell? ⟨wr.heap.size, 1, none⟩ = some (.int .i64 pg) := by simp [World.cell?, h5]
          have y2 : W5.cell? ⟨wr.heap.size, 2, none⟩ = some (.int .i64 n) := by simp [World.cell?, h5]
          have y3 : W5.cell? ⟨wr.heap.size, 3, none⟩ = some (.int .i64 rt) := by simp [World.cell?, h5]
          have y4 : W5.cell? ⟨wr.heap.size, 4, none⟩ = some (.int .u32 a) := by simp [World.cell?, h5]
          have y5 : W5.cell? ⟨wr.heap.size, 5, none⟩ = some (.slice Ab bs.length cb) := by simp [World.cell?, h5]
          have HM5 := Lib.hid (m5.below hbw)
          have HB5 := Lib.hid (bvia hb5 hbw (Nat.le_refl _))
          have HOK := Lib.hid hXk
          clear h5 hbw hX hXk m5 hb5 hI
          by_cases k0 : kind = 0
          · subst k0
            go_wp2_with fail
            refine (HM5.out.Map pg n rt).mono ?_
            rintro e W6 ⟨rfl, m6, hb6⟩
            have HI6 : Hid (ClI w W1.heap.size mb (ldM ps) (.pointer (some ⟨kc, 0, none⟩)) W6) := Lib.hid ⟨kc, _, rfl, m6, HB5.out.trans (hb6.mono hs3)⟩
            obtain ⟨z1, hz1⟩ : ∃ z, mapR C pg n rt = z := ⟨_, rfl⟩
            rw [hz1]
            clear hz1
            clear m6 hb6
            go_wp2_with fail
            go_roundw
            case rel => exact ⟨k + 1, by omega, by go_num, HI6⟩
            case measure => simp [intOf]; omega
          by_cases k1 : kind = 1
          · subst k1
            go_wp2_with fail
            refine (HM5.out.Unmap pg n).mono ?_
            rintro e W6 ⟨rfl, m6, hb6⟩
            have HI6 : Hid (ClI w W1.heap.size mb (ldM ps) (.pointer (some ⟨kc, 0, none⟩)) W6) := Lib.hid ⟨kc, _, rfl, m6, HB5.out.trans (hb6.mono hs3)⟩
            obtain ⟨z1, hz1⟩ : ∃ z, unmR C pg n = z := ⟨_, rfl⟩
            rw [hz1]
            clear hz1
            clear m6 hb6
            go_wp2_with fail
            go_roundw
            case rel => exact ⟨k + 1, by omega, by go_num, HI6⟩
            case measure => simp [intOf]; omega
          by_cases k2 : kind = 2
          · subst k2
            go_wp2_with fail
            refine (HM5.out.Protect pg n rt).mono ?_
            rintro e W6 ⟨rfl, m6, hb6⟩
            have HI6 : Hid (ClI w W1.heap.size mb (ldM ps) (.pointer (some ⟨kc, 0, none⟩)) W6) := Lib.hid ⟨kc, _, rfl, m6, HB5.out.trans (hb6.mono hs3)⟩
            obtain ⟨z1, hz1⟩ : ∃ z, proR C pg n rt = z := ⟨_, rfl⟩
            rw [hz1]
            clear hz1
            clear m6 hb6
            go_wp2_with fail
            go_roundw
            case rel => exact ⟨k + 1, by omega, by go_num, HI6⟩
            case measure => simp [intOf]; omega
          by_cases k7 : kind = 7
          · subst k7
            go_wp2_with fail
            refine (HM5.out.Write0 a bs Ab cb HOK.out.at_ HOK.out.bs.cap ((HOK.out.bs.below HB5.out).rd) HOK.out.bs.u8 fun h0 ad e => by have := HOK.out.bs.rd.old (by rw [Nat.mul_one]; exact h0) ad e; omega).mono ?_
            rintro e W6 ⟨rfl, m6, hb6⟩
            have HI6 : Hid (ClI w W1.heap.size mb (ldM ps) (.pointer (some ⟨kc, 0, none⟩)) W6) := Lib.hid ⟨kc, _, rfl, m6, HB5.out.trans (hb6.mono hs3)⟩
            obtain ⟨z1, hz1⟩ : ∃ z, wrA C 2 a bs.length = z := ⟨_, rfl⟩
            obtain ⟨z2, hz2⟩ : ∃ z, wrB C 2 a bs.length = z := ⟨_, rfl⟩
            rw [hz1, hz2]
            clear hz1 hz2
            clear m6 hb6
            go_wp2_with fail
            go_roundw
            case rel => exact ⟨k + 1, by omega, by go_num, HI6⟩
            case measure => simp [intOf]; omega
          by_cases k8 : kind = 8
          · subst k8
            go_wp2_with fail
            refine (HM5.out.Poke0 a bs Ab cb HOK.out.at_ HOK.out.bs.cap ((HOK.out.bs.below HB5.out).rd) HOK.out.bs.u8 fun h0 ad e => by have := HOK.out.bs.rd.old (by rw [Nat.mul_one]; exact h0) ad e; omega).mono ?_
            rintro e W6 ⟨rfl, m6, hb6⟩
            have HI6 : Hid (ClI w W1.heap.size mb (ldM ps) (.pointer (some ⟨kc, 0, none⟩)) W6) := Lib.hid ⟨kc, _, rfl, m6, HB5.out.trans (hb6.mono hs3)⟩
            obtain ⟨z1, hz1⟩ : ∃ z, wrA C 0 a bs.length = z := ⟨_, rfl⟩
            obtain ⟨z2, hz2⟩ : ∃ z, wrB C 0 a bs.length = z := ⟨_, rfl⟩
            rw [hz1, hz2]
            clear hz1 hz2
            clear m6 hb6
            go_wp2_with fail
            go_roundw
            case rel => exact ⟨k + 1, by omega, by go_num, HI6⟩
            case measure => simp [intOf]; omega
          by_cases k11 : kind = 11
          · subst k11
            go_wp2_with fail
            refine HM5.out.Clone.mono ?_
            rintro e W6 ⟨kd, rfl, m6, hb6⟩
            have HI6 : Hid (ClI w W1.heap.size mb (ldM ps) (.pointer (some ⟨kd, 0, none⟩)) W6) := Lib.hid ⟨kd, _, rfl, m6, HB5.out.trans (hb6.mono hs3)⟩
            clear m6 hb6
            go_wp2_with fail
            go_roundw
            case rel => exact ⟨k + 1, by omega, by go_num, HI6⟩
            case measure => simp [intOf]; omega
          have HI6 : Hid (ClI w W1.heap.size mb (ldM ps) (.pointer (some ⟨kc, 0, none⟩)) W5) := Lib.hid ⟨kc, _, rfl, HM5.out, HB5.out⟩
          have d0 : (kind == 0) = false := by simpa using k0
          have d1 : (kind == 1) = false := by simpa using k1
          have d2 : (kind == 2) = false := by simpa using k2
          have d7 : (kind == 7) = false := by simpa using k7
          have d8 : (kind == 8) = false := by simpa using k8
          have d11 : (kind == 11) = false := by simpa using k11
          go_wp2_with fail
          go_roundw
          case rel => exact ⟨k + 1, by omega, by go_num, HI6⟩
          case measure => simp [intOf]; omega
        · obtain rfl : k = xs.length := by omega
          have HM5 := Lib.hid m5
          have HB5 := Lib.hid hb5
          clear m5 hb5 hI hlt hk
          go_wp2_with fail
          refine HM5.out.fst.Save.mono ?_
          rintro e W6 ⟨⟨A6, c6, qs, rfl, rd6, new6, see6, by6, u6⟩, hb6⟩
          rw [save_load ps HPO.out] at see6
          have HM6 := Lib.hid (HM5.out.fst.below hb6)
          have HB6 := Lib.hid (bvia HB5.out hb6 (Nat.le_refl _))
          have HSP := Lib.hid (SamePages_any W6 A6 A c6 c qs ps rd6 ((HP.out.below HB6.out).rd) by6.zero (HP.out.below HB6.out).by_ u6 HP.out.u8)
          rw [sameP_of see6] at HSP
          clear rd6 new6 see6 by6 u6 hb6
          go_wp2_with fail
          refine HSP.out.mono ?_
          rintro e W7 ⟨rfl, hb7⟩
          have HM7 := Lib.hid (HM6.out.below hb7)
          have HB7 := Lib.hid (bvia HB6.out hb7 (Nat.le_refl _))
          clear hb7
          go_wp2_with fail
          refine HM7.out.Changed.mono ?_
          rintro e W8 ⟨⟨A8, c8, rfl, rd8, hc8, new8⟩, hb8⟩
          have HB8 := Lib.hid (bvia HB7.out hb8 (Nat.le_refl _))
          rw [ldM_cg]
          clear rd8 hc8 new8 hb8
          go_wp2_with fail
          go_ret
          exact ⟨rfl, HB8.out⟩
  · have HI := Lib.hid (IsPages_any W2 A c ps (HP.out.below HB2.out).rd)
    cases hisp : isP ps with
    | false =>
      rw [hisp] at HI
      clear hisp hnot
      go_wp2_with fail
      refine HI.out.mono ?_
      rintro e W3 ⟨rfl, hb3⟩
      have HB3 := Lib.hid (bvia HB2.out hb3 (Nat.le_refl _))
      clear hb3
      go_wp2_with fail
      go_ret
      exact ⟨rfl, HB3.out⟩
    | true =>
      have hc20 : (ps.length : Int) > 20 := by
        rcases Nat.lt_or_ge 20 ps.length with h | h
        · omega
        · exact absurd ⟨h, hisp⟩ hnot
      rw [hisp] at HI
      clear hisp hnot
      go_wp2_with fail
      refine HI.out.mono ?_
      rintro e W3 ⟨rfl, hb3⟩
      have HB3 := Lib.hid (bvia HB2.out hb3 (Nat.le_refl _))
      clear hb3
      go_wp2_with fail
      go_ret
      exact ⟨rfl, HB3.out⟩
end Go.Proofs.Ytidojcogojchpaa

/- mem's laws: MemRights, in plain words. -/
set_option linter.unusedVariables false
set_option linter.unusedSimpArgs false
namespace Go.Proofs.Ytidojcogojchpaa
open Go.RowKit Go.Shelf

theorem belowBox {W W' : World} {b : Nat} {o : Obj} (hb : Below W.heap.size W W') (h : W.heap[b]? = some o) : W'.heap[b]? = some o := (hb.block b (Array.getElem?_eq_some_iff.1 h).1).trans h
theorem inL_one {ks : List Int} (h : Up ks) (p : Int) : inL ks p 1 = if p ∈ ks then [p] else [] := by
  unfold inL
  have e : ∀ k : Int, decide (p ≤ k ∧ k < p + 1) = (k == p) := fun k => by
    by_cases hk : k = p
    · subst hk; simp; omega
    · rw [decide_eq_false (by omega)]; simp [hk]
  simp only [e]
  by_cases hp : p ∈ ks
  · rw [if_pos hp]
    refine up_ext (h.sublist List.filter_sublist) (List.pairwise_singleton _ _) fun x => ?_
    simp only [List.mem_filter, List.mem_singleton, beq_iff_eq]
    exact ⟨fun hx => hx.2, fun hx => by subst hx; exact ⟨hp, rfl⟩⟩
  · rw [if_neg hp]
    refine List.filter_eq_nil_iff.2 fun x hx hc => hp ?_
    rw [← (beq_iff_eq.1 hc)]; exact hx
theorem or_fin : ∀ a b : Fin 8, 0 ≤ bits .or .i64 (a.val : Int) (b.val : Int) ∧ bits .or .i64 (a.val : Int) (b.val : Int) ≤ 7 ∧ ∀ c : Fin 5, bits .and .i64 (a.val : Int) (c.val : Int) = c.val → bits .and .i64 (bits .or .i64 (a.val : Int) (b.val : Int)) (c.val : Int) = c.val := of_decide_eq_true (by kernel_rfl)
theorem or_rights {a b : Int} (ha : 0 ≤ a ∧ a ≤ 7) (hb : 0 ≤ b ∧ b ≤ 7) : (0 ≤ bits .or .i64 a b ∧ bits .or .i64 a b ≤ 7) ∧ ∀ c : Int, 0 ≤ c → c ≤ 4 → bits .and .i64 a c = c → bits .and .i64 (bits .or .i64 a b) c = c := by
  have h := or_fin ⟨a.toNat, by omega⟩ ⟨b.toNat, by omega⟩
  simp only [Int.toNat_of_nonneg ha.1, Int.toNat_of_nonneg hb.1] at h
  refine ⟨⟨h.1, h.2.1⟩, fun c c0 c1 => ?_⟩
  have := h.2.2 ⟨c.toNat, by omega⟩
  simpa only [Int.toNat_of_nonneg c0] using this
/-- The same bytes; rights at least. -/
structure LeR (A K : PM) : Prop where
  ks : K.ks = A.ks
  bs : ∀ n ∈ A.ks, (K.pg n).bs = (A.pg n).bs
  rt : ∀ n ∈ A.ks, ∀ c : Int, 0 ≤ c → c ≤ 4 → bits .and .i64 (A.pg n).r c = c → bits .and .i64 (K.pg n).r c = c
section
variable {A K : PM}
theorem LeR.ok (h : LeR A K) {need a : Int} (hn : 0 ≤ need ∧ need ≤ 4) (ho : okA A need a) : okA K need a := ⟨by rw [h.ks]; exact ho.1, h.rt _ ho.1 need hn.1 hn.2 ho.2⟩
theorem LeR.all (h : LeR A K) {need at_ n : Int} (hn : 0 ≤ need ∧ need ≤ 4) (ho : allOk A need at_ n) : allOk K need at_ n := fun i i0 i1 => h.ok hn (ho i i0 i1)
theorem rd_true {need at_ n : Int} (h : rdB A need at_ n = true) : allOk A need at_ n ∧ 0 ≤ n ∧ n ≤ 65536 := by
  unfold rdB at h
  split at h
  · cases h
  · exact ⟨firstBad_all (by simpa using h), by omega, by omega⟩
theorem LeR.bytes (h : LeR A K) {need at_ : Int} {n : Nat} (ho : allOk A need at_ n) : bytesN K at_ n = bytesN A at_ n := by
  unfold bytesN byteAt
  refine List.map_congr_left fun i hi => ?_
  have hi' : i < n := by simpa using hi
  rw [h.bs _ (ho i (by omega) (by omega)).1]
theorem LeR.rd (h : LeR A K) {need at_ n : Int} (hn : 0 ≤ need ∧ need ≤ 4) (hr : rdB A need at_ n = true) : rdB K need at_ n = true ∧ rdL K need at_ n = rdL A need at_ n := by
  obtain ⟨ho, h0, h1⟩ := rd_true hr
  obtain ⟨m, rfl⟩ : ∃ m : Nat, n = m := ⟨n.toNat, by omega⟩
  obtain ⟨a1, a2, a3⟩ := rd_ok h0 h1 ho
  obtain ⟨b1, b2, b3⟩ := rd_ok h0 h1 (h.all hn ho)
  refine ⟨b2, b3.trans (Eq.trans ?_ a3.symm)⟩
  rw [Int.toNat_natCast]
  exact h.bytes ho
theorem LeR.wr (h : LeR A K) {need at_ : Int} {n : Nat} (hn : 0 ≤ need ∧ need ≤ 4) (hr : wrB A need at_ n = true) : wrB K need at_ n = true := by
  obtain ⟨ho, h1⟩ := wr_true hr
  exact (wr_ok h1 (h.all hn ho)).2
theorem diff_nil (hk : K.ks = A.ks) (hb : ∀ n ∈ A.ks, (K.pg n).bs = (A.pg n).bs) : diffL A K = [] := by
  have hu : ∀ n ∈ uni A.ks K.ks, n ∈ A.ks := fun n hn => by
    rw [uni_mem, hk] at hn
    rcases hn with h | h <;> exact h
  have hp : posA A K (uni A.ks K.ks) = [] := by
    unfold posA
    refine List.flatMap_eq_nil_iff.2 fun n hn => ?_
    have hm := hu n hn
    unfold posP
    rw [List.filter_eq_nil_iff.2 fun j _ => ?_]
    · rfl
    · unfold dif
      rw [decide_eq_true hm, hk, decide_eq_true hm, hb n hm, decide_eq_true rfl]
      simp
  unfold diffL
  rw [hp]; rfl
theorem LeR.diff (h : LeR A K) : diffL A K = [] := diff_nil h.ks h.bs
theorem LeR.wdiff (h : LeR A K) {need at_ : Int} {bs : List Int} (hn : 0 ≤ need ∧ need ≤ 4) (hr : wrB A need at_ bs.length = true) : diffL (wrM A need at_ bs) (wrM K need at_ bs) = [] := by
  have e1 : wrM A need at_ bs = A.poke at_ bs bs.length := if_pos hr
  have e2 : wrM K need at_ bs = K.poke at_ bs bs.length := if_pos (h.wr hn hr)
  rw [e1, e2]
  refine diff_nil h.ks fun n hm => ?_
  have hm' : n ∈ A.ks := hm
  show pokeB K at_ bs bs.length n = pokeB A at_ bs bs.length n
  unfold pokeB
  rw [h.bs n hm']
/-- What Protect of one page with more rights does. -/
theorem pro_more (hu : Up A.ks) (hrng : ∀ n ∈ A.ks, 0 ≤ n ∧ n < 16777216) (hr : ∀ n ∈ A.ks, 0 ≤ (A.pg n).r ∧ (A.pg n).r ≤ 7) {p more : Int} (hm : 0 ≤ more ∧ more ≤ 7) (hp : p ∈ A.ks) :
    proR A p 1 (bits .or .i64 (A.pg p).r more) = 0 ∧ LeR A (proA A p 1 (bits .or .i64 (A.pg p).r more)) := by
  obtain ⟨⟨o0, o1⟩, oc⟩ := or_rights (hr p hp) hm
  obtain ⟨x, hx⟩ : ∃ x, bits .or .i64 (A.pg p).r more = x := ⟨_, rfl⟩
  rw [hx] at o0 o1 oc ⊢
  have hw : withinB p 1 = true := decide_eq_true (by have := hrng p hp; omega)
  have h0 : proR A p 1 x = 0 := by
    unfold proR
    rw [hw, if_neg (by simp; omega), inL_one hu, if_pos hp, if_neg (by simp)]
  refine ⟨h0, ?_⟩
  have e : proA A p 1 x = A.prot1 x p := by
    unfold proA
    rw [if_pos h0, inL_one hu, if_pos hp]; rfl
  rw [e]
  refine ⟨rfl, fun n hn => ?_, fun n hn c c0 c1 hc => ?_⟩
  · show (updPg A.pg p ⟨x, (A.pg p).bs⟩ n).bs = _
    by_cases hnp : n = p
    · subst hnp; rw [updPg_same]
    · rw [updPg_ne hnp]
  · show bits .and .i64 (updPg A.pg p ⟨x, (A.pg p).bs⟩ n).r c = c
    by_cases hnp : n = p
    · subst hnp; rw [updPg_same]; exact oc c c0 c1 hc
    · rw [updPg_ne hnp]; exact hc
theorem pro_none (hu : Up A.ks) {p x : Int} (hp : p ∉ A.ks) : proR A p 1 x = 1 ∨ proR A p 1 x = 5 := by
  unfold proR
  split
  · exact .inl rfl
  · rw [inL_one hu, if_neg hp, if_pos (by simp)]; exact .inr rfl
end
theorem M1.Rights {B : Nat} {W : World} {b : Nat} {A : PM} (h : M1 B W b A) (n : Int) :
    Calls Try.prog 28 #[.pointer (some ⟨b, 0, none⟩), .int .i64 n] W fun e w' => e = .returned (.tuple #[.int .i64 (if n ∈ A.ks then (A.pg n).r else 0), .bool (decide (n ∈ A.ks))]) ∧ W = w' := by
  obtain ⟨S, h1, _⟩ := h.ex
  exact Rights_any W b S A n h1.mem
theorem M1.up {B : Nat} {W : World} {b : Nat} {A : PM} (h : M1 B W b A) : Up A.ks := by
  obtain ⟨S, h1, _⟩ := h.ex
  exact h1.mem.up
theorem M1.rng {B : Nat} {W : World} {b : Nat} {A : PM} (h : M1 B W b A) : ∀ n ∈ A.ks, 0 ≤ n ∧ n < 16777216 := by
  obtain ⟨S, h1, _⟩ := h.ex
  exact h1.mem.rng
theorem M1.len {B : Nat} {W : World} {b : Nat} {A : PM} (h : M1 B W b A) : A.ks.length ≤ 2000 := by
  obtain ⟨S, h1, _⟩ := h.ex
  exact h1.mem.le
theorem M2.upd_low {B : Nat} {W W' : World} {b c x : Nat} {A C : PM} (h : M2 B W b A c C) (hu : Upd (fun k => k = x) W W') (hx : x < B) : M2 B W' b A c C := by
  obtain ⟨S, T, h1, h2, h3, h4, h5, h6⟩ := h.ex
  exact ⟨S, T, ⟨h1.mem.upd hu fun k hk e => by have := h3 k hk; omega, h1.bp⟩, ⟨h2.mem.upd hu fun k hk e => by have := h4 k hk; omega, h2.bp⟩, h3, h4, h5, h6⟩
end Go.Proofs.Ytidojcogojchpaa

/- mem: Same. -/
set_option linter.unusedVariables false
set_option linter.unusedSimpArgs false
namespace Go.Proofs.Ytidojcogojchpaa
open Go.RowKit Go.Shelf

def pgEq (p q : Pg) : Bool := decide (p.r = q.r ∧ p.bs = q.bs)
def toU8 (xs : List Int) : List UInt8 := xs.map fun x => UInt8.ofNat x.toNat
theorem nums_cells {xs : List Int} (h : ∀ x ∈ xs, 0 ≤ x ∧ x < 256) : nums .u8 xs = (toU8 xs).map Extern.Stop.cell := by
  unfold nums toU8
  rw [List.map_map]
  refine List.map_congr_left fun x hx => ?_
  have := h x hx
  show Value.int .u8 x = Value.int .u8 _
  congr 1
  simp only [UInt8.toNat_ofNat']
  rw [Nat.mod_eq_of_lt (by omega)]
  show x = ((x.toNat : Nat) : Int)
  omega
theorem toU8_inj {xs ys : List Int} (hx : ∀ x ∈ xs, 0 ≤ x ∧ x < 256) (hy : ∀ x ∈ ys, 0 ≤ x ∧ x < 256) (h : toU8 xs = toU8 ys) : xs = ys := by
  have h1 := nums_cells hx
  have h2 := nums_cells hy
  rw [h, ← h2] at h1
  have := congrArg (List.map fun v => match v with | Value.int _ x => x | _ => 0) h1
  simpa [nums, List.map_map, Function.comp_def] using this
theorem tail_bs (r : Pg) (hr : r.bs.length = 256) : List.take 256 (pgCells r).tail = nums .u8 r.bs := by
  have e : (pgCells r).tail = nums .u8 r.bs := rfl
  rw [e]
  exact List.take_of_length_le (by simp [nums, hr])
theorem arr_size : (Try.prog.info? 96).map (·.size) = some 256 := by kernel_rfl
theorem part_arr (r : Pg) (hr : r.bs.length = 256) (V : World) : (part 96 (pgCells r).toArray 1).run Try.prog V = .ok (.agg (nums .u8 r.bs).toArray) V := by
  have hi := arr_size
  have hx2 := tail_bs r hr
  cases hq : Try.prog.info? 96 with
  | none => rw [hq] at hi; cases hi
  | some i =>
    rw [hq] at hi
    have hs : i.size = 256 := by simpa using hi
    simp [part, isAgg, run_underlying Try.underlying96, sizeOf, typeInfo, hq, hs, hx2]
theorem u8_size (w : World) : (sizeOf 5).run Try.prog w = .ok 1 w := by
  have hi : (Try.prog.info? 5).map (·.size) = some 1 := by kernel_rfl
  cases hq : Try.prog.info? 5 with
  | none => rw [hq] at hi; cases hi
  | some i =>
    rw [hq] at hi
    have hs : i.size = 1 := by simpa using hi
    simp [sizeOf, typeInfo, hq, hs]
theorem eq_arr (p q : Pg) (hp : PgOk p) (hq : PgOk q) (d : Nat) (V : World) : (Op.equalIn (d + 2) 96 (.agg (nums .u8 p.bs).toArray) (.agg (nums .u8 q.bs).toArray)).run Try.prog V = .ok (decide (p.bs = q.bs)) V := by
  have hpl := hp.len
  have hql := hq.len
  rw [nums_cells hp.u8, nums_cells hq.u8, run_equalIn_bytes (w := V) d 96 5 256 Try.underlying96 Try.underlying5 u8_size (toU8 p.bs) (toU8 q.bs) (by simp [toU8, hpl]) (by simp [toU8, hql])]
  congr 1
  rw [Bool.eq_iff_iff]
  simp only [beq_iff_eq, decide_eq_true_eq]
  exact ⟨toU8_inj hp.u8 hq.u8, fun e => by rw [e]⟩
theorem pg_fields : (Try.prog.fieldsOf 98).toList.map (fun f => (f.name, f.type, f.offset)) = [("rights", 3, 0), ("b", 96, 1)] := by kernel_rfl
theorem pg_part0 (r : Pg) (V : World) : (part 3 (pgCells r).toArray 0).run Try.prog V = .ok (.int .i64 r.r) V := by
  simp [part, isAgg, run_underlying Try.underlying3, pgCells]
theorem pg_struct : Try.prog.underlying 98 = some (.struct (Try.prog.fieldsOf 98)) := by kernel_rfl
theorem pg_stood : Try.prog.stoodInHeld 98 = false := by kernel_rfl
theorem eq_page (p q : Pg) (hp : PgOk p) (hq : PgOk q) (d : Nat) (V : World) : (Op.equalIn (d + 3) 98 (.agg (pgCells p).toArray) (.agg (pgCells q).toArray)).run Try.prog V = .ok (pgEq p q) V := by
  have e3 := eq_arr p q hp hq d V
  have e4 : (Op.equalIn (d + 2) 3 (.int .i64 p.r) (.int .i64 q.r)).run Try.prog V = .ok (p.r == q.r) V := run_equalIn_int V (d + 1) 3 .i64 .i64 p.r q.r Try.underlying3
  rw [run_equalIn_struct (w := V) (d + 2) 98 _ _ pg_struct pg_stood]
  have hf := pg_fields
  generalize (Try.prog.fieldsOf 98).toList = fs at hf
  rcases fs with _ | ⟨f1, _ | ⟨f2, _ | ⟨f3, l⟩⟩⟩
  · cases hf
  · simp at hf
  · simp only [List.map_cons, List.map_nil, List.cons.injEq, Prod.mk.injEq, and_true] at hf
    obtain ⟨⟨n1, t1, o1⟩, ⟨n2, t2, o2⟩⟩ := hf
    simp only [Op.eqFields, n1, t1, o1, n2, t2, o2]
    have k1 : ("rights" : String) ≠ "_" := by decide
    have k2 : ("b" : String) ≠ "_" := by decide
    rw [if_pos k1, if_pos k2]
    simp only [Sem.run_bind, pg_part0, e4, Result.andThen_ok]
    unfold pgEq
    cases hb : (p.r == q.r) with
    | false =>
      have h1 : ¬ p.r = q.r := by simpa using hb
      simp [h1]
    | true =>
      have h1 : p.r = q.r := by simpa using hb
      simp only [Bool.not_true, Bool.false_eq_true, if_false, Sem.run_bind, part_arr p hp.len, part_arr q hq.len, e3, Result.andThen_ok]
      by_cases h2 : p.bs = q.bs
      · simp [h1, h2]
      · simp [h1, h2]
  · simp at hf
theorem neq_page (p q : Pg) (hp : PgOk p) (hq : PgOk q) (V : World) : (binOp .neq 98 (.agg (pgCells p).toArray) (.agg (pgCells q).toArray)).run Try.prog V = .ok (.bool (!pgEq p q)) V := by
  have h := eq_page p q hp hq
  have h' : (Op.equalIn 10000 98 (.agg (pgCells p).toArray) (.agg (pgCells q).toArray)).run Try.prog V = .ok (pgEq p q) V := h 9997 V
  rw [run_neq_struct, h']
  rfl
end Go.Proofs.Ytidojcogojchpaa

/- mem: Same. -/
set_option linter.unusedVariables false
set_option linter.unusedSimpArgs false
namespace Go.Proofs.Ytidojcogojchpaa
open Go.RowKit Go.Shelf

section
variable {P : Program} (w : World)
theorem run_neq_ptr_same {tp te : TypeId} {j : TypeInfo} (a : Addr) (hp : P.underlying tp = some (.pointer te)) (hte : P.info? te = some j) :
    (binOp .neq tp (.pointer (some a)) (.pointer (some a))).run P w = .ok (.bool false) w := by
  have h : ∀ d : Nat, (Op.equalIn (d + 1) tp (.pointer (some a)) (.pointer (some a))).run P w = .ok true w := fun d => by
    simp [Op.equalIn, run_underlying hp, sizeOf, typeInfo, hte, run_sameAddr_same]
  simp only [binOp]
  simp [Op.equal, Op.maxDepth, h 9999]
theorem run_neq_ptr_other {tp te : TypeId} {j : TypeInfo} {a b : Addr} {ca cb : Array Value} {ta tb : TypeId} (hp : P.underlying tp = some (.pointer te)) (hte : P.info? te = some j) (hsz : j.size ≠ 0)
    (hne : a ≠ b) (ha : w.heap[a.block]? = some (.cells ca ta (0, 0))) (hb : w.heap[b.block]? = some (.cells cb tb (0, 0))) :
    (binOp .neq tp (.pointer (some a)) (.pointer (some b))).run P w = .ok (.bool true) w := by
  have h : ∀ d : Nat, (Op.equalIn (d + 1) tp (.pointer (some a)) (.pointer (some b))).run P w = .ok false w := fun d => by
    simp [Op.equalIn, run_underlying hp, sizeOf, typeInfo, hte, hsz, run_sameAddr_other w hne ha hb]
  simp only [binOp]
  simp [Op.equal, Op.maxDepth, h 9999]
/-- One operation of a quiet walk whose run is known. -/
theorem quiet_of_run {C : World → Prop} {o : Oper} {a : Act} {K : Act → Prop} (v : Value) (h : ∀ w, C w → (execOp a.eval o).run P w = .ok (.value v) w) (hk : K (a.put o.dst v)) : o.quiet P a C K :=
  ⟨v, fun w hw => by unfold Oper.quietAt; rw [h w hw]; exact ⟨rfl, rfl⟩, hk⟩
theorem run_load_op {op : Oper} {a : Act} {w : World} (ty : TypeId) (x : Operand) (ho : op.op = .load ty x) (b o : Nat) (hx : a.eval x = .pointer (some ⟨b, o, none⟩)) (cs : List Value) (d : TypeDesc) (hS : w.rangeAt b o cs)
    (hu : P.underlying ty = some d) (hd : d.isRow = true) (hi : (P.info? ty).map (·.size) = some cs.length) : (execOp a.eval op).run P w = .ok (.value (.agg cs.toArray)) w := by
  unfold execOp
  simp only [ho, hx, Instr.loadAt, Instr.sureAddr, Sem.run_bind, Sem.run_pure, Result.andThen_ok, run_loadVar_mid w b o ty cs d hS hu hd hi]
theorem run_neq_op {op : Oper} {a : Act} {w : World} (ty : TypeId) (x y : Operand) (ho : op.op = .binOp .neq ty x y ty) (vx vy : Value) (v : Value) (hx : a.eval x = vx) (hy : a.eval y = vy) (hr : (eqGuard .neq ty x y vx vy).run P w = .ok () w) (h : (binOp .neq ty vx vy).run P w = .ok v w) :
    (execOp a.eval op).run P w = .ok (.value v) w := by
  unfold execOp
  simp only [ho, hx, hy, Sem.run_bind, hr, h, Result.andThen_ok, Sem.run_pure]
end
theorem region_just {P : Program} {id : Nat} {Q : Exit → Act → World → Prop} {a : Act} {w w0 : World} {l : List Oper} (hd : w.drew = w0) (hm : P.follows .mixedOrders = true) (hB : Region.lexB .any l.toArray = true)
    (h : wpQuiet P l.toArray (fun w' => ∃ q : Just w0, w' = q.W) (fun a' => ∀ w', (∃ q : Just w0, w' = q.W) → Q .normal a' w') l a) : (Code.region id l.toArray true).wp P Q a w :=
  wp_region_quiet (C := fun w' => ∃ q : Just w0, w' = q.W) hm hB ⟨⟨w.drew, hd⟩, rfl⟩ (by simpa using h)
theorem pg_infoE : ∃ j : TypeInfo, Try.prog.info? 98 = some j ∧ j.size ≠ 0 := by
  have hi : (Try.prog.info? 98).map (·.size) = some 257 := by kernel_rfl
  cases hq : Try.prog.info? 98 with
  | none => rw [hq] at hi; cases hi
  | some i =>
    rw [hq] at hi
    have hs : i.size = 257 := by simpa using hi
    exact ⟨i, rfl, by omega⟩
def sameM (A C : PM) : Bool := decide (A.ks = C.ks) && A.ks.all fun n => pgEq (A.pg n) (C.pg n)
theorem sameM_not {A C : PM} (k : Int) (hk : k ∈ A.ks) (h : pgEq (A.pg k) (C.pg k) = false) : sameM A C = false := by
  unfold sameM
  have : (A.ks.all fun n => pgEq (A.pg n) (C.pg n)) = false := by
    rw [List.all_eq_false]
    exact ⟨k, hk, by rw [h]; simp⟩
  rw [this, Bool.and_false]
theorem sameM_all {A C : PM} (hk : A.ks = C.ks) (h : ∀ j, j < A.ks.length → pgEq (A.pg (gi A.ks j)) (C.pg (gi A.ks j)) = true) : sameM A C = true := by
  unfold sameM
  rw [decide_eq_true hk, Bool.true_and, List.all_eq_true]
  intro n hn
  obtain ⟨j, hj, rfl⟩ := List.getElem_of_mem hn
  have := h j hj
  rwa [gi_get _ _ hj] at this
theorem pgEq_self (p : Pg) : pgEq p p = true := decide_eq_true ⟨rfl, rfl⟩
set_option maxRecDepth 100000 in
set_option maxHeartbeats 4000000 in
theorem Same_any (W : World) (a b : Nat) (S T : MS) (A C : PM) (ha : MemIs W a S A) (hb : MemIs W b T C) :
    Calls Try.prog 19 #[.pointer (some ⟨a, 0, none⟩), .pointer (some ⟨b, 0, none⟩)] W fun e w' => e = .returned (.bool (sameM A C)) ∧ Below W.heap.size W w' := by
  have HKA := Lib.hid (known_any W a S A ha)
  have HA := Lib.hid ha
  have HBB := Lib.hid hb
  have hle1 := ha.le
  have hle2 := hb.le
  clear ha hb
  go_enter Try.func19, Try.ntmps19
  go_wp2_with fail
  refine HKA.out.mono ?_
  rintro e w1 ⟨v1, rfl, hk1⟩
  obtain ⟨A1, c1, rfl, rd1⟩ := own_rd hk1.row
  have HB1 := Lib.hid hk1.below
  have R1 := Lib.hid rd1
  have HKB := Lib.hid (known_any w1 b T C (HBB.out.below hk1.below))
  clear hk1 rd1 HKA
  go_wp2_with fail
  refine HKB.out.mono ?_
  rintro e w2 ⟨v2, rfl, hk2⟩
  obtain ⟨A2, c2, rfl, rd2⟩ := own_rd hk2.row
  have HB2 := Lib.hid (bvia HB1.out hk2.below (Nat.le_refl _))
  have HEQ := Lib.hid (Equal_ints w2 A1 A2 A.ks C.ks c1 c2 (R1.out.below hk2.below) rd2)
  have R12 := Lib.hid (R1.out.below hk2.below)
  clear hk2 rd2 HKB
  go_wp2_with fail
  refine HEQ.out.mono ?_
  rintro e w3 ⟨rfl, hb3⟩
  have HB3 := Lib.hid (bvia HB2.out hb3 (Nat.le_refl _))
  have R3 := Lib.hid (R12.out.below hb3)
  clear hb3 HEQ R12 R1
  by_cases hks : A.ks = C.ks
  · rw [decide_eq_true hks]
    have HKS := Lib.hid hks
    clear hks
    obtain ⟨ks, hks⟩ : ∃ ks, A.ks = ks := ⟨_, rfl⟩
    rw [hks] at R3 hle1 ⊢
    have HK := Lib.hid hks
    clear hks
    have hc1 := R3.out.le
    go_wp2_with fail
    go_loopw [19] (fun i wr => ∃ k : Nat, k ≤ ks.length ∧ i = .int .i64 k ∧ Hid (Below w3.heap.size w3 wr ∧ ∀ j, j < k → pgEq (A.pg (gi ks j)) (C.pg (gi ks j)) = true)) (fun i _ => ks.length - (intOf i).toNat)
    case atStart => exact ⟨0, Nat.zero_le _, rfl, Lib.hid ⟨Below.refl _ _, fun j hj => by omega⟩⟩
    case round =>
      obtain ⟨k, hk, rfl, hI⟩ := hrel
      obtain ⟨hbr, hall⟩ := hI.out
      by_cases hlt : k < ks.length
      · obtain ⟨ad, rfl, x0⟩ := RdI.at (R3.out.below hbr) k hlt
        have hbw := bvia HB3.out hbr (Nat.le_refl _)
        have hma := HA.out.below hbw
        have hmb := HBB.out.below hbw
        obtain ⟨n, hn⟩ : ∃ n, gi ks k = n := ⟨_, rfl⟩
        have hnA : n ∈ A.ks := by rw [HK.out, ← hn]; exact gi_mem ks k hlt
        have hnC : n ∈ C.ks := by rw [← HKS.out]; exact hnA
        have hata := at_any wr a S A n hma
        rw [if_pos hnA] at hata
        have hatb := at_any wr b T C n hmb
        rw [if_pos hnC] at hatb
        have HATA := Lib.hid hata
        have HATB := Lib.hid hatb
        obtain ⟨pa, oka⟩ := hma.page n hnA
        obtain ⟨pb, okb⟩ := hmb.page n hnC
        have HALL := Lib.hid hall
        have HBR := Lib.hid hbr
        rw [hn] at x0
        have HN := Lib.hid hn
        have HNA := Lib.hid hnA
        obtain ⟨W6, hW6⟩ : ∃ W6, wr.drew = W6 := ⟨_, rfl⟩
        have hb6 : Below w3.heap.size w3 W6 := by rw [← hW6]; exact bdrewN hbr 1
        have HB6 := Lib.hid hb6
        have hpa : ∀ q : Just W6, q.W.heap[S.at_ n]? = some (pgObj (A.pg n)) := fun q => by rw [q.eq, ← hW6]; exact pa
        have hpb : ∀ q : Just W6, q.W.heap[T.at_ n]? = some (pgObj (C.pg n)) := fun q => by rw [q.eq, ← hW6]; exact pb
        obtain ⟨j0, hj0, hjs⟩ := pg_infoE
        clear hI hbr hall hbw hma hmb hata hatb hnA hnC hn hb6
        by_cases hsame : S.at_ n = T.at_ n
        · have hne : ∀ q : Just W6, (binOp .neq 95 (.pointer (some ⟨S.at_ n, 0, none⟩)) (.pointer (some ⟨T.at_ n, 0, none⟩))).run Try.prog q.W = .ok (.bool false) q.W := fun q => by
            rw [hsame]; exact run_neq_ptr_same q.W _ Try.underlying95 hj0
          have heq : pgEq (A.pg n) (C.pg n) = true := by
            rw [hsame, pb] at pa
            have : C.pg n = A.pg n := pgObj_inj (Option.some.inj pa)
            rw [this]; exact pgEq_self _
          have HE := Lib.hid heq
          clear hsame heq pa pb hpa hpb hj0 hjs
          go_wp2_with fail
          refine HATA.out.mono ?_
          rintro e wx ⟨rfl, rfl⟩
          go_wp2_with fail
          refine HATB.out.mono ?_
          rintro e wx ⟨rfl, rfl⟩
          go_wp2_with fail
          refine region_just hW6 (by kernel_rfl) (by kernel_rfl) ?_
          repeat (go_big_quiet_step (fail))
          refine wpQuiet_nil ?_
          rintro _ ⟨q, rfl⟩
          rw [q.eq]
          go_wp2_with fail
          go_roundw
          case rel => exact ⟨k + 1, by omega, by go_num, Lib.hid ⟨HB6.out, fun j hj => by
            by_cases hjk : j = k
            · rw [hjk, HN.out]; exact HE.out
            · exact HALL.out j (by omega)⟩⟩
          case measure => simp [intOf]; omega
        · have hne : ∀ q : Just W6, (binOp .neq 95 (.pointer (some ⟨S.at_ n, 0, none⟩)) (.pointer (some ⟨T.at_ n, 0, none⟩))).run Try.prog q.W = .ok (.bool true) q.W := fun q =>
            run_neq_ptr_other q.W Try.underlying95 hj0 hjs (fun e => hsame (by injection e)) (hpa q) (hpb q)
          have hnp : ∀ V, (binOp .neq 98 (.agg (pgCells (A.pg n)).toArray) (.agg (pgCells (C.pg n)).toArray)).run Try.prog V = .ok (.bool (!pgEq (A.pg n) (C.pg n))) V := neq_page _ _ oka okb
          have sza : (Try.prog.info? 98).map (·.size) = some (pgCells (A.pg n)).length := by rw [pgCells_len oka]; kernel_rfl
          have szb : (Try.prog.info? 98).map (·.size) = some (pgCells (C.pg n)).length := by rw [pgCells_len okb]; kernel_rfl
          have rga : ∀ q : Just W6, q.W.rangeAt (S.at_ n) 0 (pgCells (A.pg n)) := fun q => pg_range (hpa q)
          have rgb : ∀ q : Just W6, q.W.rangeAt (T.at_ n) 0 (pgCells (C.pg n)) := fun q => pg_range (hpb q)
          obtain ⟨pA, hpA⟩ : ∃ p, S.at_ n = p := ⟨_, rfl⟩
          obtain ⟨pB, hpB⟩ : ∃ p, T.at_ n = p := ⟨_, rfl⟩
          have HATA2 : Hid (Calls Try.prog 62 #[.pointer (some ⟨a, 0, none⟩), .int .i64 n] wr fun e w' => e = .returned (.pointer (some ⟨pA, 0, none⟩)) ∧ wr = w') := Lib.hid (by rw [← hpA]; exact HATA.out)
          have HATB2 : Hid (Calls Try.prog 62 #[.pointer (some ⟨b, 0, none⟩), .int .i64 n] wr fun e w' => e = .returned (.pointer (some ⟨pB, 0, none⟩)) ∧ wr = w') := Lib.hid (by rw [← hpB]; exact HATB.out)
          rw [hpA, hpB] at hne
          rw [hpA] at rga
          rw [hpB] at rgb
          obtain ⟨ca, hca⟩ : ∃ ca, pgCells (A.pg n) = ca := ⟨_, rfl⟩
          obtain ⟨cc, hcc⟩ : ∃ cc, pgCells (C.pg n) = cc := ⟨_, rfl⟩
          rw [hca] at rga sza hnp
          rw [hcc] at rgb szb hnp
          obtain ⟨bo, hbo⟩ : ∃ bo, pgEq (A.pg n) (C.pg n) = bo := ⟨_, rfl⟩
          rw [hbo] at hnp
          have HBO := Lib.hid hbo
          have HNP := Lib.hid hnp
          have HRA := Lib.hid rga
          have HRB := Lib.hid rgb
          have HSA := Lib.hid sza
          have HSB := Lib.hid szb
          clear hsame pa pb hpa hpb hj0 hjs hpA hpB HATA HATB hca hcc hbo hnp rga rgb sza szb oka okb
          go_wp2_with fail
          refine HATA2.out.mono ?_
          rintro e wx ⟨rfl, rfl⟩
          go_wp2_with fail
          refine HATB2.out.mono ?_
          rintro e wx ⟨rfl, rfl⟩
          go_wp2_with fail
          refine region_just hW6 (by kernel_rfl) (by kernel_rfl) ?_
          iterate 6 (go_big_quiet_step (fail))
          refine BigFrame.wpQuiet_want (by kernel_rfl) (fun K hK => ?_)
          refine quiet_of_run (.agg ca.toArray) (fun V hV => ?_) (hK _ ?_)
          · obtain ⟨q, rfl⟩ := hV
            exact run_load_op 98 (.tmp 34) rfl pA 0 rfl ca _ (HRA.out q) Try.underlying98 rfl HSA.out
          clear hK K
          simp only [Act.put, List.setIfInBounds_toArray, List.set_cons_zero, List.set_cons_succ]
          iterate 2 (go_big_quiet_step (fail))
          refine BigFrame.wpQuiet_want (by kernel_rfl) (fun K hK => ?_)
          refine quiet_of_run (.agg cc.toArray) (fun V hV => ?_) (hK _ ?_)
          · obtain ⟨q, rfl⟩ := hV
            exact run_load_op 98 (.tmp 37) rfl pB 0 rfl cc _ (HRB.out q) Try.underlying98 rfl HSB.out
          clear hK K
          simp only [Act.put, List.setIfInBounds_toArray, List.set_cons_zero, List.set_cons_succ]
          refine BigFrame.wpQuiet_want (by kernel_rfl) (fun K hK => ?_)
          refine quiet_of_run (.bool (!bo)) (fun V hV => ?_) (hK _ ?_)
          · exact run_neq_op 98 (.tmp 35) (.tmp 38) rfl (.agg ca.toArray) (.agg cc.toArray) _ rfl rfl (run_eqGuard_agg V .neq 98 _ _ _ _ (by kernel_rfl)) (HNP.out V)
          clear hK K
          simp only [Act.put, List.setIfInBounds_toArray, List.set_cons_zero, List.set_cons_succ]
          iterate 1 (go_big_quiet_step (fail))
          refine wpQuiet_nil ?_
          rintro _ ⟨q, rfl⟩
          rw [q.eq]
          cases hb : bo with
          | true =>
            have HE : Hid (pgEq (A.pg n) (C.pg n) = true) := Lib.hid (HBO.out.trans hb)
            clear hb
            go_wp2_with fail
            go_roundw
            case rel => exact ⟨k + 1, by omega, by go_num, Lib.hid ⟨HB6.out, fun j hj => by
              by_cases hjk : j = k
              · rw [hjk, HN.out]; exact HE.out
              · exact HALL.out j (by omega)⟩⟩
            case measure => simp [intOf]; omega
          | false =>
            have HE : Hid (sameM A C = false) := Lib.hid (sameM_not n HNA.out (HBO.out.trans hb))
            have HBR6 := Lib.hid (bvia HB3.out HB6.out (Nat.le_refl _))
            clear hb
            go_wp2_with fail
            go_ret
            rw [HE.out]
            exact ⟨rfl, HBR6.out⟩
      · obtain rfl : k = ks.length := by omega
        have HS := Lib.hid (show sameM A C = true from sameM_all HKS.out (by rw [HK.out]; exact hall))
        have HBR := Lib.hid (bvia HB3.out hbr (Nat.le_refl _))
        clear hI hbr hall
        go_wp2_with fail
        go_ret
        rw [HS.out]
        exact ⟨rfl, HBR.out⟩
  · rw [decide_eq_false hks]
    have HS : Hid (sameM A C = false) := Lib.hid (by unfold sameM; rw [decide_eq_false hks, Bool.false_and])
    clear hks
    go_wp2_with fail
    go_ret
    rw [HS.out]
    exact ⟨rfl, HB3.out⟩
end Go.Proofs.Ytidojcogojchpaa

/- mem's laws: MemBack. -/
set_option linter.unusedVariables false
set_option linter.unusedSimpArgs false
namespace Go.Proofs.Ytidojcogojchpaa
open Go.RowKit Go.Shelf

theorem seeM_eq {ks ks' : List Int} {pg pg' : Int → Pg} (h : seeM ks pg = seeM ks' pg') : ks = ks' ∧ ∀ n ∈ ks, (pg n).r = (pg' n).r ∧ (pg n).bs = (pg' n).bs := by
  have h1 : ks = ks' := by
    have := congrArg (List.map fun t : Int × Int × List Int => t.1) h
    simpa [seeM, List.map_map, Function.comp_def] using this
  subst h1
  refine ⟨rfl, fun n hn => ?_⟩
  have := List.map_inj_left.1 h n hn
  simp only [Prod.mk.injEq, true_and] at this
  exact this
theorem M1.psOk {B : Nat} {W : World} {b : Nat} {A : PM} (h : M1 B W b A) {qs : List PV} (hs : qs.map PV.see = seeM A.ks A.pg) : PsOk qs := by
  obtain ⟨S, h1, _⟩ := h.ex
  have hn : qs.map (·.n) = A.ks := by
    have := congrArg (List.map fun t : Int × Int × List Int => t.1) hs
    simpa [seeM, List.map_map, Function.comp_def, PV.see] using this
  have hmem : ∀ q ∈ qs, q.n ∈ A.ks ∧ q.r = (A.pg q.n).r ∧ q.bs = (A.pg q.n).bs := fun q hq => by
    have hm : q.see ∈ seeM A.ks A.pg := by rw [← hs]; exact List.mem_map.2 ⟨q, hq, rfl⟩
    obtain ⟨k, hk, e⟩ := List.mem_map.1 hm
    simp only [PV.see, Prod.mk.injEq] at e
    obtain ⟨e1, e2, e3⟩ := e
    rw [← e1]
    exact ⟨hk, e2.symm, e3.symm⟩
  have hl : qs.length = A.ks.length := by rw [← hn, List.length_map]
  have hle := h1.mem.le
  exact ⟨by rw [hn]; exact h1.mem.up, fun q hq => h1.mem.rng _ (hmem q hq).1, fun q hq => by
    obtain ⟨e1, e2, e3⟩ := hmem q hq
    have := (h1.mem.page _ e1).2
    exact ⟨by rw [e3]; exact this.len, by rw [e3]; exact this.u8, by rw [e2]; exact this.r⟩, by omega⟩
/-- A memory and the one loaded from its pages. -/
theorem loaded_same {A K : PM} (h : seeM K.ks K.pg = seeM A.ks A.pg) : sameM A K = true ∧ sameM K A = true ∧ diffL A K = [] := by
  obtain ⟨h1, h2⟩ := seeM_eq h
  refine ⟨?_, ?_, diff_nil h1 fun n hn => (h2 n (by rw [h1]; exact hn)).2⟩
  · unfold sameM
    rw [decide_eq_true h1.symm, Bool.true_and, List.all_eq_true]
    intro n hn
    have := h2 n (by rw [h1]; exact hn)
    exact decide_eq_true ⟨this.1.symm, this.2.symm⟩
  · unfold sameM
    rw [decide_eq_true h1, Bool.true_and, List.all_eq_true]
    intro n hn
    exact decide_eq_true (h2 n hn)
theorem Same_M {B1 B2 : Nat} {W : World} {b c : Nat} {A C : PM} (h : M1 B1 W b A) (h' : M1 B2 W c C) :
    Calls Try.prog 19 #[.pointer (some ⟨b, 0, none⟩), .pointer (some ⟨c, 0, none⟩)] W fun e w' => e = .returned (.bool (sameM A C)) ∧ Below W.heap.size W w' := by
  obtain ⟨S, h1, _⟩ := h.ex
  obtain ⟨T, h2, _⟩ := h'.ex
  exact Same_any W b c S T A C h1.mem h2.mem
/-- Map leaves alone what was laid behind the memory. -/
theorem M1.MapK {B : Nat} {W0 W : World} {b : Nat} {A : PM} (h : M1 B W0 b A) (hb : Below W0.heap.size W0 W) (f n r : Int) :
    Calls Try.prog 33 #[.pointer (some ⟨b, 0, none⟩), .int .i64 f, .int .i64 n, .int .i64 r] W fun e w' => e = .returned (.int .i64 (mapR A f n r)) ∧ M1 B w' b (mapA A f n r) ∧ Below B W w' ∧ ∀ k, W0.heap.size ≤ k → k < W.heap.size → w'.heap[k]? = W.heap[k]? := by
  obtain ⟨S, h1, h2⟩ := h.ex
  refine (Map_all W b S A f n r (h1.below hb)).mono fun e w' ⟨a, d⟩ => ?_
  obtain ⟨d1, d2⟩ := M1.of_did (h1.below hb) h2 d
  obtain ⟨S', _, g⟩ := d.ex
  exact ⟨a, d1, d2, fun k hk hk' => g.upd.block k hk' fun hf => by have := h1.mem.lt k (h1.mem.foot_reads k hf); omega⟩
/-- What the loop carries. -/
def BkI (w : World) (B b : Nat) (V : World) : Prop := ∃ A, M1 B V b A ∧ Below w.heap.size w V
set_option maxRecDepth 1000000 in
set_option maxHeartbeats 8000000 in
theorem back_any (A : Option Addr) (c : Nat) (ps : List PV) (D : Option Addr) (cd : Nat) (xs : List CV) (w : World) (hp : PsIn w A c ps) (hx : CsIn w D cd xs) :
    Calls Try.prog 6 #[.slice A ps.length c, .slice D xs.length cd] w fun e w' => e = .returned (.bool true) ∧ Below w.heap.size w w' := by
  have HP := Lib.hid hp
  have HX := Lib.hid hx
  have hlen := hp.rd.le
  have hcx := hx.cap
  have hlx := hx.le
  clear hp hx
  go_enter Try.func6, Try.ntmps6
  go_wp2_with fail
  refine (sane_any w).mono ?_
  rintro e W1 ⟨rfl, hb1⟩
  have HB1 := Lib.hid hb1
  have HP1 := Lib.hid (HP.out.below hb1)
  clear hb1
  go_wp2_with fail
  refine (loaded_any W1 A c ps HP1.out.rd HP1.out.by_ HP1.out.u8).mono ?_
  rintro e W2 ⟨hb2, hres⟩
  have HB2 := Lib.hid (bvia HB1.out hb2 (Nat.le_refl _))
  clear hb2
  rcases hres with ⟨⟨hl20, hisp⟩, mb, rfl, hld⟩ | ⟨hnot, rfl⟩
  · have hc20 : ¬ (ps.length : Int) > 20 := by omega
    have HPO := Lib.hid (psOk_of hisp HP1.out.u8 (by omega))
    have HM := Lib.hid hld.m1.1
    have HISP := Lib.hid hisp
    clear hisp hld
    have HFW := Lib.hid (few_any W2 D cd xs (HX.out.below HB2.out))
    cases hfw : fewB xs with
    | false =>
      rw [hfw] at HFW
      go_wp2_with fail
      refine HFW.out.mono ?_
      rintro e W3 ⟨rfl, hb3⟩
      have HB3 := Lib.hid (bvia HB2.out hb3 (Nat.le_refl _))
      clear hb3
      have HI := Lib.hid (IsPages_any W3 A c ps (HP.out.below HB3.out).rd)
      rw [HISP.out] at HI
      go_wp2_with fail
      refine HI.out.mono ?_
      rintro e W4 ⟨rfl, hb4⟩
      have HB4 := Lib.hid (bvia HB3.out hb4 (Nat.le_refl _))
      clear hb4
      have HFW4 := Lib.hid (few_any W4 D cd xs (HX.out.below HB4.out))
      rw [hfw] at HFW4
      clear hfw HFW
      go_wp2_with fail
      refine HFW4.out.mono ?_
      rintro e W5 ⟨rfl, hb5⟩
      have HB5 := Lib.hid (bvia HB4.out hb5 (Nat.le_refl _))
      clear hb5
      go_wp2_with fail
      go_ret
      exact ⟨rfl, HB5.out⟩
    | true =>
      rw [hfw] at HFW
      clear hfw
      go_wp2_with fail
      refine HFW.out.mono ?_
      rintro e W3 ⟨rfl, hb3⟩
      have HM3 := Lib.hid (HM.out.below hb3)
      have HB3 := Lib.hid (bvia HB2.out hb3 (Nat.le_refl _))
      have hs3 : w.heap.size ≤ W1.heap.size := HB1.out.size
      clear hb3 HFW
      go_wp2_with fail
      refine HM3.out.Save.mono ?_
      rintro e W4 ⟨⟨A4, c4, qs4, rfl, rd4, new4, see4, by4, u4⟩, hb4⟩
      rw [save_load ps HPO.out] at see4
      have HM4 := Lib.hid (HM3.out.below hb4)
      have HB4 := Lib.hid (bvia HB3.out hb4 (Nat.le_refl _))
      have HSP := Lib.hid (SamePages_any W4 A4 A c4 c qs4 ps rd4 ((HP.out.below HB4.out).rd) by4.zero (HP.out.below HB4.out).by_ u4 HP.out.u8)
      rw [sameP_of see4] at HSP
      clear rd4 new4 see4 by4 u4 hb4
      go_wp2_with fail
      refine HSP.out.mono ?_
      rintro e W5 ⟨rfl, hb5⟩
      have HI5 : Hid (BkI w W1.heap.size mb W5) := Lib.hid ⟨_, HM4.out.below hb5, bvia HB4.out hb5 (Nat.le_refl _)⟩
      clear hb5 HSP HM4 HB4 HM3 HB3
      go_wp2_with fail
      go_loopw [45] (fun i wr => ∃ k : Nat, k ≤ xs.length ∧ i = .int .i64 k ∧ Hid (BkI w W1.heap.size mb wr)) (fun i _ => xs.length - (intOf i).toNat)
      case atStart => exact ⟨0, Nat.zero_le _, rfl, HI5⟩
      case round =>
        obtain ⟨k, hk, rfl, hI⟩ := hrel
        obtain ⟨C, m5, hb5⟩ := hI.out
        by_cases hlt : k < xs.length
        · have hXk := HX.out.ok _ (gx_mem xs k hlt)
          obtain ⟨ad, rfl, x0, x1, x2, x3, x4, x5⟩ := (HX.out.below hb5).at k hlt
          obtain ⟨X, hX⟩ : ∃ X, gx xs k = X := ⟨_, rfl⟩
          rw [hX] at x0 x1 x2 x3 x4 x5 hXk
          obtain ⟨kind, pg, n, rt, a, Ab, cb, bs⟩ := X
          obtain ⟨W5, hW5⟩ : ∃ W5, wr.alloc (.cells #[.int .i64 kind, .int .i64 pg, .int .i64 n, .int .i64 rt, .int .u32 a, .slice Ab bs.length cb] 54) = W5 := ⟨_, rfl⟩
          have h5 : W5.heap[wr.heap.size]? = some (.cells #[.int .i64 kind, .int .i64 pg, .int .i64 n, .int .i64 rt, .int .u32 a, .slice Ab bs.length cb] 54 (0, 0)) := by rw [← hW5]; exact heap_alloc_new wr _
          have hbw : Below wr.heap.size wr W5 := by rw [← hW5]; exact balloc wr _
          have y1 : W5.cell? ⟨wr.heap.size, 1, none⟩ = some (.int .i64 pg) := by simp [World.cell?, h5]
          have y2 : W5.cell? ⟨wr.heap.size, 2, none⟩ = some (.int .i64 n) := by simp [World.cell?, h5]
          have y3 : W5.cell? ⟨wr.heap.size, 3, none⟩ = some (.int .i64 rt) := by simp [World.cell?, h5]
          have HH5 := Lib.hid h5
          have HM5 := Lib.hid (m5.MapK hbw pg n rt)
          have hs5 : wr.heap.size < W5.heap.size := (Array.getElem?_eq_some_iff.1 h5).1
          have HB5 := Lib.hid (bvia hb5 hbw (Nat.le_refl _))
          have HOK := Lib.hid hXk
          clear h5 hbw hX hXk m5 hb5 hI
          go_wp2_with fail
          refine HM5.out.mono ?_
          rintro e W6 ⟨rfl, m6, hb6, hkp⟩
          have h6 := (hkp _ (Nat.le_refl _) hs5).trans HH5.out
          have z4 : W6.cell? ⟨wr.heap.size, 4, none⟩ = some (.int .u32 a) := by simp [World.cell?, h6]
          have z5 : W6.cell? ⟨wr.heap.size, 5, none⟩ = some (.slice Ab bs.length cb) := by simp [World.cell?, h6]
          have HM6 := Lib.hid m6
          have HB6 := Lib.hid (HB5.out.trans (hb6.mono hs3))
          obtain ⟨z1, hz1⟩ : ∃ z, mapR C pg n rt = z := ⟨_, rfl⟩
          rw [hz1]
          clear m6 hb6 hkp h6 hz1 y1 y2 y3
          go_wp2_with fail
          refine (HM6.out.Write0 a bs Ab cb HOK.out.at_ HOK.out.bs.cap ((HOK.out.bs.below HB6.out).rd) HOK.out.bs.u8 fun h0 ad e => by have := HOK.out.bs.rd.old (by rw [Nat.mul_one]; exact h0) ad e; omega).mono ?_
          rintro e W7 ⟨rfl, m7, hb7⟩
          have HI7 : Hid (BkI w W1.heap.size mb W7) := Lib.hid ⟨_, m7, HB6.out.trans (hb7.mono hs3)⟩
          obtain ⟨z2, hz2⟩ : ∃ z, wrA (mapA C pg n rt) 2 a bs.length = z := ⟨_, rfl⟩
          obtain ⟨z3, hz3⟩ : ∃ z, wrB (mapA C pg n rt) 2 a bs.length = z := ⟨_, rfl⟩
          rw [hz2, hz3]
          clear m7 hb7 hz2 hz3
          go_wp2_with fail
          go_roundw
          case rel => exact ⟨k + 1, by omega, by go_num, HI7⟩
          case measure => simp [intOf]; omega
        · obtain rfl : k = xs.length := by omega
          have HM5 := Lib.hid m5
          have HB5 := Lib.hid hb5
          clear m5 hb5 hI hlt hk
          obtain ⟨wl, hwl⟩ : ∃ wl, wl = wr := ⟨wr, rfl⟩
          rw [← hwl] at HM5 HB5 ⊢
          clear hwl
          go_wp2_with fail
          refine HM5.out.Save.mono ?_
          rintro e W6 ⟨⟨A6, c6, qs, rfl, rd6, new6, see6, by6, u6⟩, hb6⟩
          have HPQ := Lib.hid (HM5.out.psOk see6)
          have HM6 := Lib.hid (HM5.out.below hb6)
          have HB6 := Lib.hid (bvia HB5.out hb6 (Nat.le_refl _))
          have HSEE := Lib.hid see6
          have HLD := Lib.hid (Load_any W6 A6 c6 qs rd6 by6.zero HPQ.out)
          clear rd6 new6 see6 by6 u6 hb6
          go_wp2_with fail
          refine HLD.out.mono ?_
          rintro e W7 ⟨kb, rfl, hld⟩
          obtain ⟨k7, hb7⟩ := hld.m1
          obtain ⟨K, hK⟩ : ∃ K, ldM qs = K := ⟨_, rfl⟩
          rw [hK] at k7
          have HSL : Hid (seeM K.ks K.pg = seeM C.ks C.pg) := Lib.hid (by rw [← hK, save_load qs HPQ.out, HSEE.out])
          have HK7 := Lib.hid k7
          have HM7 := Lib.hid (HM6.out.below hb7)
          have HB7 := Lib.hid (bvia HB6.out hb7 (Nat.le_refl _))
          have HLS := Lib.hid (loaded_same HSL.out)
          clear hld k7 hb7 hK HLD HPQ HSEE
          go_wp2_with fail
          refine (Same_M HM7.out HK7.out).mono ?_
          rintro e W8 ⟨rfl, hb8⟩
          rw [HLS.out.1]
          have HM8 := Lib.hid (HM7.out.below hb8)
          have HK8 := Lib.hid (HK7.out.below hb8)
          have HB8 := Lib.hid (bvia HB7.out hb8 (Nat.le_refl _))
          clear hb8
          go_wp2_with fail
          refine (Same_M HK8.out HM8.out).mono ?_
          rintro e W9 ⟨rfl, hb9⟩
          rw [HLS.out.2.1]
          have HM9 := Lib.hid (HM8.out.below hb9)
          have HK9 := Lib.hid (HK8.out.below hb9)
          have HB9 := Lib.hid (bvia HB8.out hb9 (Nat.le_refl _))
          clear hb9
          go_wp2_with fail
          refine HM9.out.Save.mono ?_
          rintro e W10 ⟨⟨A10, c10, qa, rfl, rd10, new10, see10, by10, u10⟩, hb10⟩
          have HM10 := Lib.hid (HM9.out.below hb10)
          have HK10 := Lib.hid (HK9.out.below hb10)
          have HB10 := Lib.hid (bvia HB9.out hb10 (Nat.le_refl _))
          have R10 := Lib.hid rd10
          have Y10 := Lib.hid by10
          have HSA := Lib.hid see10
          have HUA := Lib.hid u10
          clear hb10 rd10 new10 see10 by10 u10
          go_wp2_with fail
          refine HK10.out.Save.mono ?_
          rintro e W11 ⟨⟨A11, c11, qb, rfl, rd11, new11, see11, by11, u11⟩, hb11⟩
          have HM11 := Lib.hid (HM10.out.below hb11)
          have HK11 := Lib.hid (HK10.out.below hb11)
          have HB11 := Lib.hid (bvia HB10.out hb11 (Nat.le_refl _))
          have HSP := Lib.hid (SamePages_any W11 A10 A11 c10 c11 qa qb (R10.out.below hb11) rd11 (Y10.out.below hb11).zero by11.zero HUA.out u11)
          rw [sameP_of (HSA.out.trans (HSL.out.symm.trans see11.symm))] at HSP
          clear hb11 rd11 new11 see11 by11 u11
          go_wp2_with fail
          refine HSP.out.mono ?_
          rintro e W12 ⟨rfl, hb12⟩
          have HM12 := Lib.hid (HM11.out.below hb12)
          have HK12 := Lib.hid (HK11.out.below hb12)
          have HB12 := Lib.hid (bvia HB11.out hb12 (Nat.le_refl _))
          clear hb12 HSP
          go_wp2_with fail
          refine (Diff_M HM12.out HK12.out).mono ?_
          rintro e W13 ⟨⟨A13, c13, rfl, rd13, new13⟩, hb13⟩
          rw [HLS.out.2.2]
          have HB13 := Lib.hid (bvia HB12.out hb13 (Nat.le_refl _))
          clear rd13 new13 hb13
          go_wp2_with fail
          go_ret
          exact ⟨rfl, HB13.out⟩
  · have HI := Lib.hid (IsPages_any W2 A c ps (HP.out.below HB2.out).rd)
    cases hisp : isP ps with
    | false =>
      rw [hisp] at HI
      clear hisp hnot
      go_wp2_with fail
      refine HI.out.mono ?_
      rintro e W3 ⟨rfl, hb3⟩
      have HB3 := Lib.hid (bvia HB2.out hb3 (Nat.le_refl _))
      clear hb3
      go_wp2_with fail
      go_ret
      exact ⟨rfl, HB3.out⟩
    | true =>
      have hc20 : (ps.length : Int) > 20 := by
        rcases Nat.lt_or_ge 20 ps.length with h | h
        · omega
        · exact absurd ⟨h, hisp⟩ hnot
      rw [hisp] at HI
      clear hisp hnot
      go_wp2_with fail
      refine HI.out.mono ?_
      rintro e W3 ⟨rfl, hb3⟩
      have HB3 := Lib.hid (bvia HB2.out hb3 (Nat.le_refl _))
      clear hb3
      go_wp2_with fail
      go_ret
      exact ⟨rfl, HB3.out⟩
end Go.Proofs.Ytidojcogojchpaa

/- package slices: Grow of a nil slice of bytes, Concat of two slices of bytes. -/
set_option linter.unusedVariables false
set_option linter.unusedSimpArgs false
namespace Go.Proofs.Ytidojcogojchpaa
open Go.RowKit Go.Shelf

set_option maxRecDepth 100000 in
set_option maxHeartbeats 2000000 in
theorem Grow_nil (w : World) (n : Nat) (hn : n ≤ 1000000) :
    Calls Try.prog 76 #[.slice none 0 0, .int .i64 n] w fun e w' => ∃ v, e = .returned v ∧ w'.ownsRow w.heap.size 5 1 v 0 [] ∧ Below w.heap.size w w' := by
  by_cases h0 : n = 0
  · subst h0
    go_enter Try.func76, Try.ntmps76
    go_wp2
    go_ret
    exact ⟨_, rfl, World.ownsRow_nil _ _ _ _, Below.refl _ _⟩
  · obtain ⟨i0, hi0, hz0, hz1, hz2⟩ := info_parts info_u8
    have hrz := Lib.run_append_grow_zeros (P := Try.prog) w 42 3 42 5 i0 (Value.int .u8 0) .i64 .i64 Try.underlying42 Try.underlying3 hi0 hz0 none 0 0 [] (run_firstCells_none w.drew i0.size 0 0 0) n (by omega) (by omega) (by omega) (by omega) (by rw [hz2]; omega)
      (growslice_fits (by omega) (by rw [hz2]; omega))
    have hge : 0 + n ≤ grownCap w (0 + n) 0 5 := grownCap_ge w _ _ _
    have hmx := grownCap_le_maxLen w (0 + n) 0 5 (by unfold maxLen; omega)
    obtain ⟨G, hG⟩ : ∃ G, grownCap w (0 + n) 0 5 = G := ⟨_, rfl⟩
    rw [hG] at hrz hge hmx
    have hG63 : G ≤ 9223372036854775807 := by unfold maxLen at hmx; omega
    obtain ⟨cur, hcur⟩ : ∃ cur, (([] : List Value).toArray ++ Builtin.zeroCells (Value.int .u8 0).cells n ++ Builtin.zeroCells (Value.int .u8 0).cells (G - (0 + n))) = cur := ⟨_, rfl⟩
    rw [hcur] at hrz
    have hsz : cur.size = G := by
      rw [← hcur]
      simp [Builtin.zeroCells, Value.cells]
      omega
    have e1 : ¬ ((n : Int) < 0) := by omega
    have e2 : (n : Int) > 0 := by omega
    have e3 : wrap64 (n : Int) = n := by unfold wrap64; omega
    have HS := Lib.hid hsz
    have HM := Lib.hid hmx
    have hrz' : (Builtin.append_ #[42, 3] 42 #[.slice none 0 0, .int .i64 n]).run Try.prog w = .ok (.slice (some ⟨w.heap.size, 0, none⟩) n G) (w.drew.alloc (.cells cur 5)) := by rw [hrz]; simp
    clear hcur hG hrz hi0 hz0 hz1 hz2 hmx
    go_enter Try.func76, Try.ntmps76
    go_wp2_with (at_builtin; refine Lib.wpList_append_run _ rfl (.tmp 20) (.tmp 21) _ _ rfl _ _ rfl rfl _ _ hrz' ?_)
    all_goals
      go_ret
      refine ⟨_, rfl, ⟨rfl, .inr ⟨w.heap.size, G, cur, rfl, Nat.le_refl _, heap_alloc_new _ _, Nat.zero_le _, HM.out, by rw [HS.out]; omega, by simp⟩⟩, ?_⟩
      exact bvia (bdrewN (Below.refl _ w) 1) (balloc _ _) (Nat.le_refl _)
def cc2 (xs ys : List Int) : Nat → List Int
  | 0 => [] | 1 => xs | _ => xs ++ ys
set_option maxRecDepth 100000 in
set_option maxHeartbeats 4000000 in
theorem Concat2 (W : World) (g : Nat) (A1 A2 : Option Addr) (xs ys : List Int) (c1 c2 : Nat) (hg : W.heap[g]? = some (.cells #[.slice A1 xs.length c1, .slice A2 ys.length c2] 42 (0, 0)))
    (r1 : Rd W A1 xs.length 1 (nums .u8 xs)) (r2 : Rd W A2 ys.length 1 (nums .u8 ys)) (hx : xs.length ≤ 100000) (hy : ys.length ≤ 100000) (h1 : xs.length ≤ c1) (h2 : ys.length ≤ c2) :
    Calls Try.prog 38 #[.slice (some ⟨g, 0, none⟩) 2 2] W fun e w' => ∃ v, e = .returned v ∧ w'.ownsRow W.heap.size 5 1 v (xs ++ ys).length (nums .u8 (xs ++ ys)) ∧ Below W.heap.size W w' := by
  have R1 := Lib.hid r1
  have R2 := Lib.hid r2
  have c0 : W.cell? ⟨g, 0, none⟩ = some (.slice A1 xs.length c1) := by simp [World.cell?, hg]
  have c1' : W.cell? ⟨g, 1, none⟩ = some (.slice A2 ys.length c2) := by simp [World.cell?, hg]
  have C0 := Lib.hid c0
  have C1 := Lib.hid c1'
  clear r1 r2 hg c0 c1'
  go_enter Try.func38, Try.ntmps38
  go_wp2_with fail
  go_loopw [3, 11] (fun n i wr => ∃ k : Nat, k ≤ 2 ∧ i = .int .i64 k ∧ n = .int .i64 (cc2 xs ys k).length ∧ wr = W) (fun _ i _ => 2 - (intOf i).toNat)
  case atStart => exact ⟨0, by omega, rfl, rfl, rfl⟩
  case round =>
    obtain ⟨k, hk, rfl, rfl, rfl⟩ := hrel
    have h3 : k = 0 ∨ k = 1 ∨ k = 2 := by omega
    rcases h3 with rfl | rfl | rfl
    · have q0 := C0.out
      show Code.wp _ _ _ _ _
      simp only [show (cc2 xs ys 0).length = 0 from rfl]
      have hw : wrap64 (xs.length : Int) = xs.length := by unfold wrap64; omega
      have hng : ¬ (xs.length : Int) < 0 := by omega
      go_wp2_with fail
      go_roundw
      case rel => exact ⟨1, by omega, by go_num, rfl, trivial⟩
      case measure => simp [intOf]
    · have q0 := C1.out
      simp only [show (cc2 xs ys 1).length = xs.length from rfl]
      have hw : wrap64 ((xs.length : Int) + ys.length) = xs.length + ys.length := by unfold wrap64; omega
      have hng : ¬ ((xs.length : Int) + ys.length) < 0 := by omega
      go_wp2_with fail
      go_roundw
      case rel => exact ⟨2, by omega, by go_num, by show _ = Value.int .i64 (((xs ++ ys).length : Nat) : Int); simp, trivial⟩
      case measure => simp [intOf]
    · simp only [show (cc2 xs ys 2).length = (xs ++ ys).length from rfl]
      obtain ⟨nn, hnn⟩ : ∃ nn, (xs ++ ys).length = nn := ⟨_, rfl⟩
      rw [hnn]
      have hn1 : nn ≤ 1000000 := by rw [← hnn]; simp; omega
      obtain ⟨wl, hwl⟩ : ∃ wl, wl = wr := ⟨wr, rfl⟩
      have HWL := Lib.hid hwl
      rw [← hwl] at R1 R2 C0 C1 ⊢
      clear hwl
      have HGR := Lib.hid (Grow_nil wl nn hn1)
      go_wp2_with fail
      refine HGR.out.mono ?_
      rintro e w2 ⟨v, rfl, hv, hb2⟩
      have HI2 : Hid (w2.ownsRow wl.heap.size 5 1 v (cc2 xs ys 0).length (nums .u8 (cc2 xs ys 0)) ∧ Below wl.heap.size wl w2) := Lib.hid ⟨hv, hb2⟩
      clear hv hb2 HGR
      go_wp2_with fail
      go_loopw [6, 27] (fun v i wr => ∃ k : Nat, k ≤ 2 ∧ i = .int .i64 k ∧ Hid (wr.ownsRow wl.heap.size 5 1 v (cc2 xs ys k).length (nums .u8 (cc2 xs ys k)) ∧ Below wl.heap.size wl wr)) (fun _ i _ => 2 - (intOf i).toNat)
      case atStart => exact ⟨0, by omega, rfl, HI2⟩
      case round =>
        obtain ⟨k, hk, rfl, hI⟩ := hrel
        obtain ⟨hown, hbr⟩ := hI.out
        obtain ⟨i0, hi0, hz0, hz1, hz2⟩ := info_parts info_u8
        have h3 : k = 0 ∨ k = 1 ∨ k = 2 := by omega
        rcases h3 with rfl | rfl | rfl
        · have q0 := bkeep hbr C0.out
          obtain ⟨v', W', hrun, hown', hgr, _⟩ := app_gen (P := Try.prog) (t := 42) (ty := 42) (c := c1) Try.underlying42 hi0 hz0 hz1 hz2 rfl (by decide) hown (R1.out.below hbr) (nums_oneC .u8 xs) (by simp [cc2, maxLen]; omega) (by simp [cc2]; omega) hbr.size
          have hb' : Below wl.heap.size wl W' := hbr.grown hgr hbr.size fun k e => (World.ownsRow.lt hown k e).1
          have HI : Hid (W'.ownsRow wl.heap.size 5 1 v' (cc2 xs ys 1).length (nums .u8 (cc2 xs ys 1)) ∧ Below wl.heap.size wl W') := Lib.hid ⟨by simpa [cc2, nums] using hown', hb'⟩
          clear hown hown' hgr hb' hI
          go_wp2_with (at_builtin; refine Lib.wpList_append_run _ rfl (.tmp 31) (.tmp 32) _ _ rfl _ _ rfl rfl _ _ hrun ?_)
          go_roundw
          case rel => exact ⟨1, by omega, by go_num, HI⟩
          case measure => simp [intOf]
        · have q0 := bkeep hbr C1.out
          obtain ⟨v', W', hrun, hown', hgr, _⟩ := app_gen (P := Try.prog) (t := 42) (ty := 42) (c := c2) Try.underlying42 hi0 hz0 hz1 hz2 rfl (by decide) hown (R2.out.below hbr) (nums_oneC .u8 ys) (by simp [cc2, maxLen]; omega) (by simp [cc2]; omega) hbr.size
          have hb' : Below wl.heap.size wl W' := hbr.grown hgr hbr.size fun k e => (World.ownsRow.lt hown k e).1
          have HI : Hid (W'.ownsRow wl.heap.size 5 1 v' (cc2 xs ys 2).length (nums .u8 (cc2 xs ys 2)) ∧ Below wl.heap.size wl W') := Lib.hid ⟨by simpa [cc2, nums] using hown', hb'⟩
          clear hown hown' hgr hb' hI
          go_wp2_with (at_builtin; refine Lib.wpList_append_run _ rfl (.tmp 31) (.tmp 32) _ _ rfl _ _ rfl rfl _ _ hrun ?_)
          go_roundw
          case rel => exact ⟨2, by omega, by go_num, HI⟩
          case measure => simp [intOf]
        · clear hi0 hz0 hz1 hz2
          go_wp2_with fail
          go_ret
          exact ⟨_, rfl, by rw [← HWL.out]; exact hown, by rw [← HWL.out]; exact hbr⟩
end Go.Proofs.Ytidojcogojchpaa

/- mem's reference: copied, copies. -/
set_option linter.unusedVariables false
set_option linter.unusedSimpArgs false
namespace Go.Proofs.Ytidojcogojchpaa
open Go.RowKit Go.Shelf

theorem results_cellM {fn : Func} {a : Tmp} {ty : TypeId} (h : fn.results = #[.cell a ty]) {tmps : Array Value} {P : Program} {w : World} {p : Addr} {v : Value} (ha : tmps[a]?.getD undef = .pointer (some p)) (hl : (loadVar ty p).run P w = .ok v w) :
    (results fn tmps).run P w = .ok v w := by
  simp [results, h, ha, hl, asAddr]
set_option maxRecDepth 100000 in
set_option maxHeartbeats 2000000 in
theorem copied_any (W : World) (n r : Int) (A : Option Addr) (c : Nat) (bs : List Int) (h : Rd W A bs.length 1 (nums .u8 bs)) (hl : bs.length ≤ 1000000) :
    Calls Try.prog 98 #[.agg #[.int .i64 n, .int .i64 r, .slice A bs.length c]] W fun e w' => ∃ A' c', e = .returned (.agg #[.int .i64 n, .int .i64 r, .slice A' bs.length c']) ∧ w'.ownsRow W.heap.size 5 1 (.slice A' bs.length c') bs.length (nums .u8 bs) ∧ Below W.heap.size W w' := by
  obtain ⟨i0, hi0, hz0, hz1, hz2⟩ := info_parts info_u8
  obtain ⟨W2, hW2⟩ : ∃ W2, (W.alloc (.cells #[.int .i64 n, .int .i64 r, .slice A bs.length c] 79)).alloc (.cells #[.int .i64 0, .int .i64 0, .slice none 0 0] 79) = W2 := ⟨_, rfl⟩
  have hs2 : W2.heap.size = W.heap.size + 2 := by rw [← hW2]; simp
  have hb2 : Below W.heap.size W W2 := by rw [← hW2]; exact (balloc _ _).trans ((balloc _ _).mono (by simp))
  have hx0 : W2.heap[W.heap.size]? = some (.cells #[.int .i64 n, .int .i64 r, .slice A bs.length c] 79 (0, 0)) := by rw [← hW2]; exact (heap_alloc_old _ _ (by simp)).trans (heap_alloc_new _ _)
  have hx1 : W2.heap[W.heap.size + 1]? = some (.cells #[.int .i64 0, .int .i64 0, .slice none 0 0] 79 (0, 0)) := by
    have := heap_alloc_new (W.alloc (.cells #[.int .i64 n, .int .i64 r, .slice A bs.length c] 79)) (.cells #[.int .i64 0, .int .i64 0, .slice none 0 0] 79)
    rw [show (W.alloc (.cells #[.int .i64 n, .int .i64 r, .slice A bs.length c] 79)).heap.size = W.heap.size + 1 by simp] at this
    rw [← hW2]; exact this
  obtain ⟨W3, hW3⟩ : ∃ W3, W2.alloc (.cells #[] 5) = W3 := ⟨_, rfl⟩
  have hown : W3.ownsRow (W.heap.size + 2) 5 1 (.slice (some ⟨W.heap.size + 2, 0, none⟩) 0 0) 0 [] := by
    have := World.ownsRow_lit (base := W.heap.size + 2) (e := 5) (size := 1) W2 #[] 0 (by omega) (by decide) rfl
    rw [hs2] at this
    rw [← hW3]; exact this
  have hb3 : Below W2.heap.size W2 W3 := by rw [← hW3]; exact balloc _ _
  have hs3 : W3.heap.size = W.heap.size + 3 := by rw [← hW3]; simp; omega
  obtain ⟨v', W4, hrun, hown4, hgr, hv⟩ := app_gen (P := Try.prog) (t := 42) (ty := 42) (c := c) Try.underlying42 hi0 hz0 hz1 hz2 rfl (by decide) hown ((h.below hb2).below hb3) (nums_oneC .u8 bs) (by simp [maxLen]; omega) (by omega) (by omega)
  obtain ⟨A', c', rfl, _⟩ := own_rd hown4
  have hb4 : Below (W.heap.size + 2) W3 W4 := (Upd.of_grown hgr).below (by omega) fun k hk => (hown.lt k hk).1
  have hx4 : ∀ k o, k < W.heap.size + 2 → W2.heap[k]? = some o → W4.heap[k]? = some o := fun k o hk e => (hb4.block k hk).trans ((hb3.block k (by omega)).trans e)
  have hy0 := hx4 _ _ (by omega) hx0
  have hy1 := hx4 _ _ (by omega) hx1
  rw [Nat.zero_add] at hrun hown4
  have y2 : W3.cell? ⟨W.heap.size, 2, none⟩ = some (.slice A bs.length c) := by simp [World.cell?, belowBox hb3 hx0]
  have HX0 := Lib.hid hy0
  have HX1 := Lib.hid hy1
  have HO4 := Lib.hid hown4
  have HB4 : Hid (Below W.heap.size W W4) := Lib.hid ((hb2.trans (hb3.mono (by omega))).trans (hb4.mono (by omega)))
  have hs4 : W.heap.size + 3 ≤ W4.heap.size := by have := hb4.size; omega
  have z2 : W4.cell? ⟨W.heap.size, 2, none⟩ = some (.slice A bs.length c) := by simp [World.cell?, hy0]
  have zf : W4.frozen? ⟨W.heap.size, 2, none⟩ = false := by simp [World.frozen?, hy0]
  obtain ⟨W5, hW5⟩ : ∃ W5, W4.setCell ⟨W.heap.size, 2, none⟩ (.slice A' bs.length c') = W5 := ⟨_, rfl⟩
  have hx5 : W5.heap[W.heap.size]? = some (.cells #[.int .i64 n, .int .i64 r, .slice A' bs.length c'] 79 (0, 0)) := by rw [← hW5, setCell_row hy0]; rfl
  have hu5 : Upd (fun k => k = W.heap.size) W4 W5 := by rw [← hW5]; exact Upd.setCell W4 ⟨W.heap.size, 2, none⟩ _
  have hz5 : W5.heap[W.heap.size + 1]? = some (.cells #[.int .i64 0, .int .i64 0, .slice none 0 0] 79 (0, 0)) := (hu5.block _ (by omega) (by omega)).trans hy1
  have w0 : W5.cell? ⟨W.heap.size, 0, none⟩ = some (.int .i64 n) := by simp [World.cell?, hx5]
  have w1 : W5.cell? ⟨W.heap.size, 1, none⟩ = some (.int .i64 r) := by simp [World.cell?, hx5]
  have w2 : W5.cell? ⟨W.heap.size, 2, none⟩ = some (.slice A' bs.length c') := by simp [World.cell?, hx5]
  have v0 : W5.cell? ⟨W.heap.size + 1, 0, none⟩ = some (.int .i64 0) := by simp [World.cell?, hz5]
  have v1 : W5.cell? ⟨W.heap.size + 1, 1, none⟩ = some (.int .i64 0) := by simp [World.cell?, hz5]
  have v2 : W5.cell? ⟨W.heap.size + 1, 2, none⟩ = some (.slice none 0 0) := by simp [World.cell?, hz5]
  have vf : ∀ o, W5.frozen? ⟨W.heap.size + 1, o, none⟩ = false := fun o => by simp [World.frozen?, hz5]
  have HZ5 := Lib.hid hz5
  have HU5 := Lib.hid hu5
  clear hx5 hz5 hu5
  clear hi0 hz0 hz1 hz2 hown hown4 hgr hv hb4 hb3 hb2 hx4 hx0 hx1 hy0 hy1 h
  go_enter Try.func98, Try.ntmps98
  go_wp2_with (at_builtin; refine Lib.wpList_append_run _ rfl (.tmp 3) (.tmp 5) _ _ rfl _ _ rfl rfl _ _ hrun ?_)
  all_goals
    refine bodyPost_ret (v := .agg #[.int .i64 n, .int .i64 r, .slice A' bs.length c']) (results_cellM rfl rfl (run_loadVar_row (P := Try.prog) _ (W.heap.size + 1) 79 79 _ (0, 0) _ (setCell_row (setCell_row (setCell_row HZ5.out _) _) _) Try.underlying79 rfl (by kernel_rfl))) rfl ?_
    have hu6 : Upd (fun k => k = W.heap.size ∨ k = W.heap.size + 1) W4 (((W5.setCell ⟨W.heap.size + 1, 0, none⟩ (.int .i64 n)).setCell ⟨W.heap.size + 1, 1, none⟩ (.int .i64 r)).setCell ⟨W.heap.size + 1, 2, none⟩ (.slice A' bs.length c')) := by
      have e0 := (Upd.setCell W5 ⟨W.heap.size + 1, 0, none⟩ (.int .i64 n)).mono (G := fun k => k = W.heap.size ∨ k = W.heap.size + 1) fun k h => .inr h
      have e1 := (Upd.setCell (W5.setCell ⟨W.heap.size + 1, 0, none⟩ (.int .i64 n)) ⟨W.heap.size + 1, 1, none⟩ (.int .i64 r)).mono (G := fun k => k = W.heap.size ∨ k = W.heap.size + 1) fun k h => .inr h
      have e2 := (Upd.setCell ((W5.setCell ⟨W.heap.size + 1, 0, none⟩ (.int .i64 n)).setCell ⟨W.heap.size + 1, 1, none⟩ (.int .i64 r)) ⟨W.heap.size + 1, 2, none⟩ (.slice A' bs.length c')).mono (G := fun k => k = W.heap.size ∨ k = W.heap.size + 1) fun k h => .inr h
      exact (((HU5.out.mono (G := fun k => k = W.heap.size ∨ k = W.heap.size + 1) fun k h => .inl h).trans e0 fun i h => .inl h).trans e1 fun i h => .inl h).trans e2 fun i h => .inl h
    refine ⟨_, _, rfl, ?_, HB4.out.trans (hu6.below HB4.out.size fun k hk => by omega)⟩
    have hlt := fun k hk => (HO4.out.lt k hk).1
    have ho := own_upd HO4.out hu6 fun k hk hf => by have := hlt k hk; omega
    rw [List.nil_append] at ho
    exact own_base' ho fun k hk => by have := hlt k hk; omega
/-- Between two rounds of copies. -/
structure RcI (W : World) (ps : List PV) (k : Nat) (v : Value) (V : World) : Prop where
  ex : ∃ qs : List PV, qs.length = k ∧ V.ownsRow W.heap.size 79 3 v qs.length (flat qs) ∧ qs.map PV.see = (ps.take k).map PV.see ∧ BytesAt V W.heap.size qs ∧ ∀ p ∈ qs, ∀ ad, p.A = some ad → ad.block < V.heap.size ∧ v.ownBlock ≠ some ad.block
  below : Below W.heap.size W V
set_option maxRecDepth 100000 in
set_option maxHeartbeats 4000000 in
theorem copies_any (W : World) (A : Option Addr) (c : Nat) (ps : List PV) (hrd : Rd W A ps.length 3 (flat ps)) (hby : BytesAt W 0 ps) (hl : ∀ p ∈ ps, p.bs.length ≤ 1000000) (hn : ps.length ≤ 100000) :
    Calls Try.prog 58 #[.slice A ps.length c] W fun e w' => ∃ v, e = .returned v ∧ ∃ qs : List PV, w'.ownsRow W.heap.size 79 3 v qs.length (flat qs) ∧ qs.map PV.see = ps.map PV.see ∧ BytesAt w' W.heap.size qs ∧ Below W.heap.size W w' := by
  have HRD := Lib.hid hrd
  have HBY := Lib.hid hby
  have HL := Lib.hid hl
  clear hrd hby hl
  go_enter Try.func58, Try.ntmps58
  go_wp2_with fail
  go_loopw [3, 4] (fun v i wr => ∃ k : Nat, k ≤ ps.length ∧ i = .int .i64 k ∧ Hid (RcI W ps k v wr)) (fun _ i _ => ps.length - (intOf i).toNat)
  case atStart => exact ⟨0, Nat.zero_le _, rfl, Lib.hid ⟨⟨[], rfl, World.ownsRow_nil _ _ _ _, rfl, fun p hp => absurd hp (by simp), fun p hp => absurd hp (by simp)⟩, Below.refl _ _⟩⟩
  case round =>
    obtain ⟨k, hk, rfl, hI⟩ := hrel
    by_cases hlt : k < ps.length
    · obtain ⟨qs, hql, hrow, hsee, hqb, hqa⟩ := hI.out.ex
      have hbr := hI.out.below
      obtain ⟨ad, rfl, x0, x1, x2⟩ := (HRD.out.below hbr).at3 k hlt
      have hmem := gp_mem ps k hlt
      obtain ⟨hbrd, _, _⟩ := HBY.out _ hmem
      have hblen := HL.out _ hmem
      have hsn : (ps.take (k + 1)).map PV.see = (ps.take k).map PV.see ++ [(gp ps k).see] := by
        rw [List.take_succ_eq_append_getElem hlt, List.map_append, gp_get ps k hlt]; rfl
      obtain ⟨P, hP⟩ : ∃ P, gp ps k = P := ⟨_, rfl⟩
      rw [hP] at x0 x1 x2 hbrd hblen hsn
      obtain ⟨pn, pr, pA, pc, pb⟩ := P
      have HCP := Lib.hid (copied_any wr pn pr pA pc pb (hbrd.below hbr) hblen)
      have HQ := Lib.hid (And.intro hrow (And.intro hsee (And.intro hqb hqa)))
      have HBR := Lib.hid hbr
      have HSN := Lib.hid hsn
      have HQL := Lib.hid hql
      clear hrow hsee hqb hqa hbr hsn hbrd hblen hmem hP hI hql
      go_wp2_with fail
      refine HCP.out.mono ?_
      rintro e w2 ⟨A', c', rfl, ho, hb2⟩
      obtain ⟨hrow, hsee, hqb, hqa⟩ := HQ.out
      have hrow2 := own_upd hrow (Upd.of_below hb2) fun k hk hf => by have := (hrow.lt k hk).2; omega
      obtain ⟨v', W', hrun, hown', hbA, hgr, hv⟩ := app_page hrow2 ⟨pn, pr, A', c', pb⟩ (by have := HQL.out; omega) (by have := HBR.out.size; have := hb2.size; omega)
      have hb2' := bvia HBR.out hb2 (Nat.le_refl _)
      have hbw : Below W.heap.size W W' := (hb2'.trans ((balloc _ _).mono hb2'.size)).trans hbA
      have hra : Rd w2 A' pb.length 1 (nums .u8 pb) := own_rdC ho
      have hca : pb.length ≤ c' := by
        rcases ho.2 with ⟨e0, h0⟩ | ⟨g, cap', cur, e0, hb, hg, hn, hm, hs, ht⟩
        · injection e0 with e1 e2 e3; omega
        · injection e0 with e1 e2 e3; omega
      have hna : ∀ ad, A' = some ad → wr.heap.size ≤ ad.block ∧ ad.block < w2.heap.size := fun ad e => by
        subst e
        exact ho.lt ad.block rfl
      have hvlt : ∀ k, u3.ownBlock = some k → W.heap.size ≤ k ∧ k < wr.heap.size := fun k hk => hrow.lt k hk
      have HI : Hid (RcI W ps (k + 1) v' W') := Lib.hid ⟨⟨qs ++ [⟨pn, pr, A', c', pb⟩], by simp [HQL.out], by rw [List.length_append]; exact hown', by rw [List.map_append, hsee, HSN.out]; rfl, fun p hp => ?_, fun p hp ad e => ?_⟩, hbw⟩
      · clear hrow hsee hqb hqa hrow2 hown' hbA hgr hv hb2' hbw hra hca hna hvlt hb2 ho HCP
        go_wp2_with (at_builtin; refine Lib.wpList_append_run _ rfl (.tmp 11) (.tmp 17) _ _ rfl _ _ rfl rfl _ _ hrun ?_)
        go_roundw
        case rel => exact ⟨k + 1, by omega, by go_num, HI⟩
        case measure => simp [intOf]; omega
      · rcases List.mem_append.1 hp with hp | hp
        · obtain ⟨q1, q2, q3⟩ := hqb p hp
          refine ⟨((q1.below hb2).upd (Upd.of_grown hgr) fun ad e hf => (hqa p hp ad e).2 hf), q2, q3⟩
        · obtain rfl : p = ⟨pn, pr, A', c', pb⟩ := by simpa using hp
          refine ⟨hra.upd (Upd.of_grown hgr) fun ad e hf => ?_, hca, fun ad e => ?_⟩
          · have := (hna ad e).1
            have := (hvlt _ hf).2
            omega
          · have := (hna ad e).1
            have := HBR.out.size
            omega
      · have hs2 := hgr.size
        have hv' : ∀ b, b < w2.heap.size → u3.ownBlock ≠ some b → v'.ownBlock ≠ some b := fun b hb hne e' => by
          rcases hv with e2 | e2
          · exact hne (e2 ▸ e')
          · rw [e2] at e'
            injection e' with e'
            omega
        rcases List.mem_append.1 hp with hp | hp
        · obtain ⟨q1, q2⟩ := hqa p hp ad e
          have := hb2.size
          exact ⟨by omega, hv' _ (by omega) q2⟩
        · obtain rfl : p = ⟨pn, pr, A', c', pb⟩ := by simpa using hp
          obtain ⟨q1, q2⟩ := hna ad e
          exact ⟨by omega, hv' _ q2 fun e' => by have := (hvlt _ e').2; omega⟩
    · obtain rfl : k = ps.length := by omega
      obtain ⟨qs, hql, hrow, hsee, hqb, hqa⟩ := hI.out.ex
      have hbr := hI.out.below
      rw [List.take_length] at hsee
      go_wp2_with fail
      go_ret
      exact ⟨_, rfl, qs, hrow, hsee, hqb, hbr⟩
end Go.Proofs.Ytidojcogojchpaa

/- mem's reference: Spans.put. -/
set_option linter.unusedVariables false
set_option linter.unusedSimpArgs false
namespace Go.Proofs.Ytidojcogojchpaa
open Go.RowKit Go.Shelf

def putS (L : List (Int × Int)) (at_ n : Int) : List (Int × Int) :=
  match L.getLast? with
  | none => L ++ [(at_, n)]
  | some s => if s.1 + s.2 = at_ then L.dropLast ++ [(s.1, s.2 + n)] else L ++ [(at_, n)]
theorem putS_nil (at_ n : Int) : putS [] at_ n = [(at_, n)] := rfl
theorem putS_last (l : List (Int × Int)) (a0 n0 at_ n : Int) : putS (l ++ [(a0, n0)]) at_ n = if a0 + n0 = at_ then l ++ [(a0, n0 + n)] else (l ++ [(a0, n0)]) ++ [(at_, n)] := by
  unfold putS
  rw [List.getLast?_concat, List.dropLast_concat]
/-- The spans that have been put so far, behind a pointer. -/
structure SpI (R : Nat → Prop) (b : Nat) (L : List (Int × Int)) (V : World) : Prop where
  ex : ∃ v, V.heap[b]? = some (.cells #[v] 112 (0, 0)) ∧ V.ownsRow (b + 1) 36 2 v L.length (sflat L) ∧ ∀ k, v.ownBlock = some k → ¬ R k
  nb : ¬ R b
  lt : ∀ k, R k → k < V.heap.size
/-- More may be left alone: what was laid behind. -/
theorem SpI.more {R R1 : Nat → Prop} {b : Nat} {L : List (Int × Int)} {V V2 : World} (h : SpI R b L V) (hb : Below V.heap.size V V2) (h1 : ∀ k, R1 k → R k ∨ V.heap.size ≤ k) (h2 : ∀ k, R1 k → k < V2.heap.size) : SpI R1 b L V2 := by
  obtain ⟨v, e1, e2, e3⟩ := h.ex
  have hlb : b < V.heap.size := (Array.getElem?_eq_some_iff.1 e1).1
  refine ⟨⟨v, (hb.block b hlb).trans e1, own_upd e2 (Upd.of_below hb) fun k hk hf => by have := (e2.lt k hk).2; omega, fun k hk hr => ?_⟩, fun hr => ?_, h2⟩
  · rcases h1 k hr with h3 | h3
    · exact e3 k hk h3
    · have := (e2.lt k hk).2; omega
  · rcases h1 b hr with h3 | h3
    · exact h.nb h3
    · omega
theorem app_spanN {W : World} {base : Nat} {v : Value} {l : List (Int × Int)} (hown : W.ownsRow base 36 2 v l.length (sflat l)) (a n : Int) (hn : l.length ≤ 10000000) (hbase : base ≤ W.heap.size) :
    ∃ v' W', (Builtin.append_ #[33, 33] 33 #[v, .slice (some ⟨W.heap.size, 0, none⟩) 1 1]).run Try.prog (W.alloc (.cells #[.int .u32 a, .int .i64 n] 36)) = .ok v' W' ∧ W'.ownsRow base 36 2 v' (l.length + 1) (sflat (l ++ [(a, n)])) ∧ W.grownBy W' v.ownBlock ∧ (v'.ownBlock = v.ownBlock ∨ v'.ownBlock = some (W.heap.size + 1)) := by
  obtain ⟨i0, hi0, hz0, hz1, hz2⟩ := info_parts info_span
  have hr : Rd (W.alloc (.cells #[.int .u32 a, .int .i64 n] 36)) (some ⟨W.heap.size, 0, none⟩) 1 2 (sflat [(a, n)]) := rd_new W 36 (sflat [(a, n)]) 1 2 rfl (by omega)
  obtain ⟨v', W', h1, h2, h3, h4⟩ := app_gen (P := Try.prog) (t := 33) (ty := 33) (c := 1) Try.underlying33 hi0 hz0 hz1 hz2 rfl (by decide) (hown.alloc _) hr (sflat_one _) (by unfold maxLen; omega) (by omega) (by simp; omega)
  rw [sflat_append]
  refine ⟨v', W', h1, h2, ?_, by simpa using h4⟩
  have hb := balloc W (.cells #[.int .u32 a, .int .i64 n] 36)
  refine ⟨h3.os, h3.tape, h3.output, by have := h3.size; simp at this; omega, fun k hk hn => ?_⟩
  rw [h3.block k (by simp; omega) hn]
  exact hb.block k hk
/-- How put ends. -/
structure PutE (R : Nat → Prop) (b : Nat) (L : List (Int × Int)) (V w' : World) : Prop where
  sp : SpI R b L w'
  upd : Upd (fun k => ¬ R k) V w'
theorem u32_in (x : Int) (h : 0 ≤ x ∧ x < 4294967296) : IntKind.u32.wrap x = x := by unfold IntKind.wrap; simp [IntKind.signed, IntKind.bits]; omega
/-- Behind the append. -/
theorem SpI.app {R : Nat → Prop} {b : Nat} {L : List (Int × Int)} {V Vd W' : World} {v v' : Value} {at_ n : Int} (hd : Upd (fun _ => False) V Vd) (hb : V.heap[b]? = some (.cells #[v] 112 (0, 0))) (hnb : ¬ R b) (hR : ∀ k, R k → k < V.heap.size) (hv : ∀ k, v.ownBlock = some k → ¬ R k)
    (hrow : Vd.ownsRow (b + 1) 36 2 v L.length (sflat L)) (hown : W'.ownsRow (b + 1) 36 2 v' (L.length + 1) (sflat (L ++ [(at_, n)]))) (hg : Vd.grownBy W' v.ownBlock) (hv' : v'.ownBlock = v.ownBlock ∨ v'.ownBlock = some (Vd.heap.size + 1)) : PutE R b (L ++ [(at_, n)]) V (W'.setCell ⟨b, 0, none⟩ v') := by
  have hub := Upd.of_grown hg
  have hsz : V.heap.size ≤ Vd.heap.size := hd.size
  have hlb : b < V.heap.size := (Array.getElem?_eq_some_iff.1 hb).1
  have hbd : Vd.heap[b]? = _ := (hd.block b hlb fun h => h).trans hb
  have hbw : W'.heap[b]? = _ := (hub.block b (by omega) (fun e => by have := (hrow.lt b e).1; omega)).trans hbd
  have hs : Upd (fun k => k = b) W' (W'.setCell ⟨b, 0, none⟩ v') := Upd.setCell W' ⟨b, 0, none⟩ v'
  refine ⟨⟨⟨v', by rw [setCell_row hbw]; rfl, ?_, fun k hk hr => ?_⟩, hnb, fun k hk => ?_⟩, ?_⟩
  · have h2 := own_upd hown hs fun k hk hf => by have := (hown.lt k hk).1; omega
    rw [List.length_append]
    exact h2
  · rcases hv' with e | e
    · exact hv k (e ▸ hk) hr
    · rw [e] at hk
      injection hk with hk
      have := hR k hr
      omega
  · have := hR k hk; have := hub.size; have := hs.size; omega
  · exact ((hd.mono (G := fun k => ¬ R k) fun k h => h.elim).trans (hub.mono (G := fun k => ¬ R k) fun k h => hv k h) fun i h => .inl h).trans (hs.mono (G := fun k => ¬ R k) fun k h => by rw [h]; exact hnb) fun i h => .inl h
set_option maxRecDepth 100000 in
set_option maxHeartbeats 4000000 in
theorem put_any (V : World) (R : Nat → Prop) (b : Nat) (L : List (Int × Int)) (at_ n : Int) (h : SpI R b L V) (ha : 0 ≤ at_ ∧ at_ < 4294967296) (hn : 1 ≤ n ∧ n ≤ 256) (hl : L.length ≤ 1000000) (hL : ∀ s ∈ L, (0 ≤ s.1 ∧ s.1 < 4294967296) ∧ 0 ≤ s.2 ∧ s.2 ≤ 4294967296) :
    Calls Try.prog 64 #[.pointer (some ⟨b, 0, none⟩), .int .i64 at_, .int .i64 n] V fun e w' => e = .returned (.tuple #[]) ∧ PutE R b (putS L at_ n) V w' := by
  obtain ⟨v, hb, hrow, hvR⟩ := h.ex
  have hlt := h.lt
  have hnb := h.nb
  have hlb : b < V.heap.size := (Array.getElem?_eq_some_iff.1 hb).1
  have c0 : V.cell? ⟨b, 0, none⟩ = some v := by simp [World.cell?, hb]
  have f0 : V.frozen? ⟨b, 0, none⟩ = false := by simp [World.frozen?, hb]
  have hw : IntKind.u32.wrap at_ = at_ := u32_in at_ ha
  obtain ⟨Vd, hVd⟩ : ∃ Vd, V.drew = Vd := ⟨_, rfl⟩
  have hd : Upd (fun _ => False) V Vd := by rw [← hVd]; exact Upd.drew _ _
  obtain ⟨A0, k0, rfl, _⟩ := own_rd hrow
  have cd : ∀ q : Just Vd, q.W.cell? ⟨b, 0, none⟩ = some (.slice A0 L.length k0) := fun q => by rw [q.eq, ← hVd]; exact c0
  have cdv : Vd.cell? ⟨b, 0, none⟩ = some (.slice A0 L.length k0) := by rw [← hVd]; exact c0
  have appW : ∀ W' : World, Upd (fun k => b + 1 ≤ k) Vd W' → W'.cell? ⟨b, 0, none⟩ = some (.slice A0 L.length k0) ∧ W'.frozen? ⟨b, 0, none⟩ = false := fun W' hu => by
    have hbd : Vd.heap[b]? = _ := (hd.block b hlb fun h => h).trans hb
    have hbw : W'.heap[b]? = _ := (hu.block b (by have := hd.size; omega) (by omega)).trans hbd
    exact ⟨by simp [World.cell?, hbw], by simp [World.frozen?, hbw]⟩
  have hrd := own_upd hrow hd fun k hk h => h
  obtain ⟨v', W', hrun, hown, hg, hv'⟩ := app_spanN hrd at_ n (by omega) (by have := hd.size; omega)
  obtain ⟨A', k', rfl, _⟩ := own_rd hown
  have HP := Lib.hid (SpI.app hd hb hnb hlt hvR hrd hown hg hv')
  have hub : Upd (fun k => b + 1 ≤ k) Vd W' := (Upd.of_grown hg).mono fun k hk => (hrow.lt k hk).1
  obtain ⟨aw, af⟩ := appW W' hub
  rcases Nat.eq_zero_or_pos L.length with hz | hp
  · obtain rfl : L = [] := List.length_eq_zero_iff.1 hz
    clear hrow hrd hown hg hub appW hd hb hL hvR hv'
    simp only [List.length_nil] at c0 cd cdv hrun aw HP ⊢
    go_enter Try.func64, Try.ntmps64
    go_wp2_with fail
    refine region_just hVd (by kernel_rfl) (by kernel_rfl) ?_
    repeat (go_big_quiet_step (fail))
    refine wpQuiet_nil ?_
    rintro _ ⟨q, rfl⟩
    rw [q.eq]
    go_wp2_with (at_builtin; refine Lib.wpList_append_run _ rfl (.tmp 58) (.tmp 63) _ _ rfl _ _ rfl rfl _ _ hrun ?_)
    go_end0
    exact ⟨rfl, HP.out⟩
  · obtain ⟨l, a0, n0, rfl⟩ := last_split L (by intro e; subst e; simp at hp)
    rw [putS_last]
    obtain ⟨⟨la0, la1⟩, ln0, ln1⟩ := hL (a0, n0) (by simp)
    obtain ⟨N, hN⟩ : ∃ N, l.length = N := ⟨_, rfl⟩
    have hlen : (l ++ [(a0, n0)]).length = N + 1 := by simp [hN]
    rw [hlen] at c0 cd cdv hrun aw hl HP
    have hrow' := hrow
    rw [hlen] at hrow'
    obtain ⟨g, cg, hv⟩ := own_sliceC hrow' (by omega)
    cases hv
    have cellR : ∀ W' : World, W'.ownsRow (b + 1) 36 2 (.slice (some ⟨g, 0, none⟩) (N + 1) k0) (N + 1) (sflat (l ++ [(a0, n0)])) → W'.cell? ⟨g, N * 2, none⟩ = some (.int .u32 a0) ∧ W'.cell? ⟨g, N * 2 + 1, none⟩ = some (.int .i64 n0) ∧ W'.cell? ((⟨g, 0, none⟩ : Addr).add (N * 2)) = some (.int .u32 a0) := fun W' hr => by
      have e1 := hr.cellAt (N * 2) (by omega)
      have e2 := hr.cellAt (N * 2 + 1) (by omega)
      rw [sflat_append, List.getElem?_append_right (by rw [sflat_len, hN]; omega), sflat_len, hN] at e1 e2
      rw [show N * 2 - N * 2 = 0 by omega] at e1
      rw [show N * 2 + 1 - N * 2 = 1 by omega] at e2
      refine ⟨e1.trans rfl, e2.trans rfl, ?_⟩
      have : ((⟨g, 0, none⟩ : Addr).add (N * 2)) = ⟨g, N * 2, none⟩ := by
        unfold Addr.add
        split
        · rename_i h; rw [h]
        · simp
      rw [this]; exact e1.trans rfl
    have hrd' := hrd
    rw [hlen] at hrd'
    obtain ⟨r0, r1, r2⟩ := cellR Vd hrd'
    have q0 : ∀ q : Just Vd, q.W.cell? ⟨g, N * 2, none⟩ = some (.int .u32 a0) := fun q => by rw [q.eq]; exact r0
    have q1 : ∀ q : Just Vd, q.W.cell? ⟨g, N * 2 + 1, none⟩ = some (.int .i64 n0) := fun q => by rw [q.eq]; exact r1
    have q2 : ∀ q : Just Vd, q.W.cell? ((⟨g, 0, none⟩ : Addr).add (N * 2)) = some (.int .u32 a0) := fun q => by rw [q.eq]; exact r2
    have w1 : wrap64 ((N : Int) + 1 - 1) = N := by unfold wrap64; omega
    have w2 : IntKind.i64.wrap (a0 + n0) = a0 + n0 := IntWalk.i64_in _ (by omega)
    have w3 : IntKind.i64.wrap a0 = a0 := IntWalk.i64_in _ (by omega)
    have w4 : IntKind.i64.wrap ((N : Int) + 1 - 1) = N := by rw [IntWalk.i64_in _ (by omega)]; omega
    by_cases he : a0 + n0 = at_
    · rw [if_pos he]
      have heq : (a0 + n0 == at_) = true := by simpa using he
      have g1 : decide ((N : Int) ≥ 0) = true := by simp
      have w5 : IntKind.i64.wrap (n0 + n) = n0 + n := IntWalk.i64_in _ (by omega)
      obtain ⟨Ve, hVe⟩ : ∃ Ve, Vd.drew = Ve := ⟨_, rfl⟩
      have hde : Upd (fun _ => False) Vd Ve := by rw [← hVe]; exact Upd.drew _ _
      have hre := own_upd hrd' hde fun k hk h => h
      obtain ⟨s0, s1, s2⟩ := cellR Ve hre
      have t0 : ∀ q : Just Ve, q.W.cell? ⟨g, N * 2, none⟩ = some (.int .u32 a0) := fun q => by rw [q.eq]; exact s0
      have t1 : ∀ q : Just Ve, q.W.cell? ⟨g, N * 2 + 1, none⟩ = some (.int .i64 n0) := fun q => by rw [q.eq]; exact s1
      have t2 : ∀ q : Just Ve, q.W.cell? ((⟨g, 0, none⟩ : Addr).add (N * 2)) = some (.int .u32 a0) := fun q => by rw [q.eq]; exact s2
      have ce : ∀ q : Just Ve, q.W.cell? ⟨b, 0, none⟩ = some (.slice (some ⟨g, 0, none⟩) (N + 1) k0) := fun q => by rw [q.eq, ← hVe]; exact cdv
      have fe : Ve.frozen? ⟨g, N * 2 + 1, none⟩ = false := by
        rcases hre.2 with ⟨h0, _⟩ | ⟨g', cap', cur, e0, _, hg', _⟩
        · cases h0
        · injection e0 with e1 _ _
          injection e1 with e1
          injection e1 with e1
          subst e1
          simp [World.frozen?, hg']
      have hset := own_set hre (i := N * 2 + 1) (by omega) (.int .i64 (n0 + n))
      rw [← hN, sflat_set, hN] at hset
      have hgB : b + 1 ≤ g ∧ g < Ve.heap.size := hre.lt g rfl
      have hgR : ¬ R g := hvR g rfl
      have hus : Upd (fun k => k = g) Ve (Ve.setCell ⟨g, N * 2 + 1, none⟩ (.int .i64 (n0 + n))) := Upd.setCell Ve ⟨g, N * 2 + 1, none⟩ _
      have HPE : Hid (PutE R b (l ++ [(a0, n0 + n)]) V (Ve.setCell ⟨g, N * 2 + 1, none⟩ (.int .i64 (n0 + n)))) := by
        have hbe : Ve.heap[b]? = _ := (hde.block b (by have := hd.size; omega) fun h => h).trans ((hd.block b hlb fun h => h).trans hb)
        have hb2 : (Ve.setCell ⟨g, N * 2 + 1, none⟩ (.int .i64 (n0 + n))).heap[b]? = _ := (hus.block b (by have := hd.size; have := hde.size; omega) (by omega)).trans hbe
        refine Lib.hid ⟨⟨⟨_, hb2, ?_, fun k hk => ?_⟩, hnb, fun k hk => ?_⟩, ?_⟩
        · rw [hlen, show (l ++ [(a0, n0 + n)]).length = N + 1 by simp [hN]]; exact hset
        · exact hvR k hk
        · have := hlt k hk; have := hd.size; have := hde.size; have := hus.size; omega
        · exact ((hd.mono (G := fun k => ¬ R k) fun k h => h.elim).trans (hde.mono (G := fun k => ¬ R k) fun k h => h.elim) fun i h => .inl h).trans (hus.mono (G := fun k => ¬ R k) fun k h => by rw [h]; exact hgR) fun i h => .inl h
      clear hrow hrd hown hg hub appW hd hb hL hvR hv' hrow' hrd' cellR r0 r1 r2 hre hset hus hgB hgR s0 s2 hde hrun
      go_enter Try.func64, Try.ntmps64
      go_wp2_with fail
      refine region_just hVd (by kernel_rfl) (by kernel_rfl) ?_
      repeat (go_big_quiet_step (fail))
      refine wpQuiet_nil ?_
      rintro _ ⟨q, rfl⟩
      rw [q.eq]
      go_wp2_with fail
      refine region_tail 17 hVe (by kernel_rfl) (by kernel_rfl) ?_
      simp only [List.take_succ_cons, List.take_zero, List.drop_succ_cons, List.drop_zero]
      repeat (go_big_quiet_step (fail))
      refine wpQuiet_nil ?_
      go_wp2_with fail
      all_goals
        refine bodyPost_ret (results_none rfl _ _ _) rfl ?_
        exact ⟨rfl, HPE.out⟩
    · rw [if_neg he]
      have hne : (a0 + n0 == at_) = false := by simpa using he
      have g1 : decide ((N : Int) ≥ 0) = true := by simp
      clear hrow hrd hown hg hub appW hd hb hL hvR hv' hrow' hrd' cellR r0 r1 r2
      go_enter Try.func64, Try.ntmps64
      go_wp2_with fail
      refine region_just hVd (by kernel_rfl) (by kernel_rfl) ?_
      repeat (go_big_quiet_step (fail))
      refine wpQuiet_nil ?_
      rintro _ ⟨q, rfl⟩
      rw [q.eq]
      go_wp2_with (at_builtin; refine Lib.wpList_append_run _ rfl (.tmp 58) (.tmp 63) _ _ rfl _ _ rfl rfl _ _ hrun ?_)
      go_end0
      exact ⟨rfl, HP.out⟩
end Go.Proofs.Ytidojcogojchpaa

/- mem's reference: Spans.bytesDiffer. -/
set_option linter.unusedVariables false
set_option linter.unusedSimpArgs false
namespace Go.Proofs.Ytidojcogojchpaa
open Go.RowKit Go.Shelf

def OkS (L : List (Int × Int)) (m : Nat) (M : Int) : Prop := L.length ≤ m ∧ ∀ s ∈ L, (0 ≤ s.1 ∧ s.1 < 4294967296) ∧ 0 ≤ s.2 ∧ s.2 ≤ M
theorem OkS.put {L : List (Int × Int)} {m : Nat} {M at_ n : Int} (h : OkS L m M) (h0 : 0 ≤ M) (ha : 0 ≤ at_ ∧ at_ < 4294967296) (hn : 0 ≤ n) : OkS (putS L at_ n) (m + 1) (M + n) := by
  rcases Nat.eq_zero_or_pos L.length with hz | hp
  · obtain rfl : L = [] := List.length_eq_zero_iff.1 hz
    rw [putS_nil]
    refine ⟨by simp, fun s hs => ?_⟩
    obtain rfl : s = (at_, n) := by simpa using hs
    exact ⟨ha, hn, by show n ≤ M + n; omega⟩
  · obtain ⟨l, a0, n0, rfl⟩ := last_split L (by intro e; subst e; simp at hp)
    have hl := h.1
    simp at hl
    have h2 := h.2
    rw [putS_last]
    split
    · refine ⟨by simp; omega, fun s hs => ?_⟩
      rcases List.mem_append.1 hs with hs | hs
      · have := h2 s (List.mem_append.2 (.inl hs)); exact ⟨this.1, this.2.1, by omega⟩
      · obtain rfl : s = (a0, n0 + n) := by simpa using hs
        have := h2 (a0, n0) (by simp)
        exact ⟨this.1, by have := this.2.1; show 0 ≤ n0 + n; simp at this; omega, by have := this.2.2; show n0 + n ≤ M + n; simp at this; omega⟩
    · refine ⟨by simp; omega, fun s hs => ?_⟩
      rcases List.mem_append.1 hs with hs | hs
      · have := h2 s hs; exact ⟨this.1, this.2.1, by omega⟩
      · obtain rfl : s = (at_, n) := by simpa using hs
        exact ⟨ha, hn, by show n ≤ M + n; omega⟩
def bdL (L : List (Int × Int)) (n : Int) (pb qb : List Int) : Nat → List (Int × Int)
  | 0 => L
  | j + 1 => if gi pb j = gi qb j then bdL L n pb qb j else putS (bdL L n pb qb j) (n * 256 + j) 1
theorem OkS.bd {L : List (Int × Int)} {m : Nat} {M n : Int} {pb qb : List Int} (h : OkS L m M) (h0 : 0 ≤ M) (hn : 0 ≤ n ∧ n < 16777216) : ∀ j : Nat, j ≤ 256 → OkS (bdL L n pb qb j) (m + j) (M + j)
  | 0, _ => ⟨h.1, fun s hs => by have := h.2 s hs; exact ⟨this.1, this.2.1, by omega⟩⟩
  | j + 1, hj => by
    have ih := OkS.bd h h0 hn j (by omega) (pb := pb) (qb := qb)
    show OkS (if _ then _ else _) _ _
    split
    · exact ⟨by have := ih.1; omega, fun s hs => by have := ih.2 s hs; exact ⟨this.1, this.2.1, by omega⟩⟩
    · have := ih.put (at_ := n * 256 + j) (n := 1) (by omega) (by omega) (by omega)
      exact ⟨by have := this.1; omega, fun s hs => by have := this.2 s hs; exact ⟨this.1, this.2.1, by omega⟩⟩
set_option maxRecDepth 100000 in
set_option maxHeartbeats 4000000 in
theorem bytesDiffer_any (V : World) (R : Nat → Prop) (b : Nat) (L : List (Int × Int)) (m : Nat) (M : Int) (n n' rp rq : Int) (A1 A2 : Option Addr) (c1 c2 : Nat) (pb qb : List Int) (h : SpI R b L V) (hok : OkS L m M) (hm : m ≤ 500000) (hM : 0 ≤ M ∧ M ≤ 1000000000)
    (r1 : Rd V A1 256 1 (nums .u8 pb)) (r2 : Rd V A2 256 1 (nums .u8 qb)) (hR1 : ∀ ad, A1 = some ad → R ad.block) (hR2 : ∀ ad, A2 = some ad → R ad.block) (hn : 0 ≤ n ∧ n < 16777216) (hc1 : 256 ≤ c1) (hc2 : 256 ≤ c2)
    (u1 : ∀ x ∈ pb, 0 ≤ x ∧ x < 256) (u2 : ∀ x ∈ qb, 0 ≤ x ∧ x < 256) :
    Calls Try.prog 65 #[.pointer (some ⟨b, 0, none⟩), .agg #[.int .i64 n, .int .i64 rp, .slice A1 256 c1], .agg #[.int .i64 n', .int .i64 rq, .slice A2 256 c2]] V fun e w' => e = .returned (.tuple #[]) ∧ PutE R b (bdL L n pb qb 256) V w' := by
  obtain ⟨V2, hV2⟩ : ∃ V2, (V.alloc (.cells #[.int .i64 n, .int .i64 rp, .slice A1 256 c1] 79)).alloc (.cells #[.int .i64 n', .int .i64 rq, .slice A2 256 c2] 79) = V2 := ⟨_, rfl⟩
  have hs2 : V2.heap.size = V.heap.size + 2 := by rw [← hV2]; simp
  have hb2 : Below V.heap.size V V2 := by rw [← hV2]; exact (balloc _ _).trans ((balloc _ _).mono (by simp))
  have hx0 : V2.heap[V.heap.size]? = some (.cells #[.int .i64 n, .int .i64 rp, .slice A1 256 c1] 79 (0, 0)) := by rw [← hV2]; exact (heap_alloc_old _ _ (by simp)).trans (heap_alloc_new _ _)
  have hx1 : V2.heap[V.heap.size + 1]? = some (.cells #[.int .i64 n', .int .i64 rq, .slice A2 256 c2] 79 (0, 0)) := by
    have := heap_alloc_new (V.alloc (.cells #[.int .i64 n, .int .i64 rp, .slice A1 256 c1] 79)) (.cells #[.int .i64 n', .int .i64 rq, .slice A2 256 c2] 79)
    rw [show (V.alloc (.cells #[.int .i64 n, .int .i64 rp, .slice A1 256 c1] 79)).heap.size = V.heap.size + 1 by simp] at this
    rw [← hV2]; exact this
  obtain ⟨R1, hRd⟩ : ∃ R1 : Nat → Prop, R1 = fun k => R k ∨ k = V.heap.size ∨ k = V.heap.size + 1 := ⟨_, rfl⟩
  have hRR : ∀ k, R k → R1 k := fun k hk => by rw [hRd]; exact .inl hk
  have hRa : R1 V.heap.size := by rw [hRd]; exact .inr (.inl rfl)
  have hRb : R1 (V.heap.size + 1) := by rw [hRd]; exact .inr (.inr rfl)
  have hsp : SpI R1 b L V2 := h.more hb2 (fun k hk => by rw [hRd] at hk; rcases hk with e | e | e <;> first | exact .inl e | exact .inr (by omega)) (fun k hk => by rw [hRd] at hk; rcases hk with e | e | e <;> first | (have := h.lt k e; omega) | omega)
  have HR := Lib.hid (And.intro hRR (And.intro hRa hRb))
  have HX := Lib.hid (And.intro hx0 hx1)
  have HRD := Lib.hid (And.intro (r1.below hb2) (r2.below hb2))
  have HRA := Lib.hid (And.intro hR1 hR2)
  have HOK := Lib.hid hok
  have HLT := Lib.hid h.lt
  have HB2 := Lib.hid hb2
  have HU := Lib.hid (And.intro u1 u2)
  have HI0 : Hid (SpI R1 b (bdL L n pb qb 0) V2 ∧ Upd (fun k => ¬ R1 k) V2 V2) := Lib.hid ⟨hsp, Upd.refl _ _⟩
  clear hRR hRa hRb hsp hx0 hx1 r1 r2 hR1 hR2 hok hb2 hRd h u1 u2
  go_enter Try.func65, Try.ntmps65
  go_wp2_with fail
  go_loopw [6] (fun i wr => ∃ j : Nat, j ≤ 256 ∧ i = .int .i64 j ∧ Hid (SpI R1 b (bdL L n pb qb j) wr ∧ Upd (fun k => ¬ R1 k) V2 wr)) (fun i _ => 256 - (intOf i).toNat)
  case atStart => exact ⟨0, Nat.zero_le _, rfl, HI0⟩
  case round =>
    obtain ⟨j, hj, rfl, hI⟩ := hrel
    obtain ⟨hsp, hu⟩ := hI.out
    by_cases hlt : j < 256
    · obtain ⟨hRR, hRa, hRb⟩ := HR.out
      have hb0 : wr.heap[V.heap.size]? = _ := (hu.block _ (by omega) (fun hf => hf hRa)).trans HX.out.1
      have hb1 : wr.heap[V.heap.size + 1]? = _ := (hu.block _ (by omega) (fun hf => hf hRb)).trans HX.out.2
      have rd1 := HRD.out.1.upd hu fun ad e hf => hf (hRR _ (HRA.out.1 ad e))
      have rd2 := HRD.out.2.upd hu fun ad e hf => hf (hRR _ (HRA.out.2 ad e))
      obtain ⟨ad1, e1, d1⟩ := RdI.at rd1 j hlt
      obtain ⟨ad2, e2, d2⟩ := RdI.at rd2 j hlt
      subst e1
      subst e2
      obtain ⟨wd, hwd⟩ : ∃ wd, wr.drew = wd := ⟨_, rfl⟩
      have hbd : Below wr.heap.size wr wd := by rw [← hwd]; exact bdrewN (Below.refl _ wr) 1
      have kk : ∀ {x : Addr} {v : Value}, wr.cell? x = some v → ∀ q : Just wd, q.W.cell? x = some v := fun h q => Just.cell (by rw [← hwd]; exact h) q
      obtain ⟨x, hx⟩ : ∃ x, gi pb j = x := ⟨_, rfl⟩
      obtain ⟨y, hy⟩ : ∃ y, gi qb j = y := ⟨_, rfl⟩
      rw [hx] at d1
      rw [hy] at d2
      have y0 := kk (show wr.cell? ⟨V.heap.size, 2, none⟩ = some (.slice (some ad1) 256 c1) by simp [World.cell?, hb0])
      have y1 := kk (show wr.cell? ⟨V.heap.size + 1, 2, none⟩ = some (.slice (some ad2) 256 c2) by simp [World.cell?, hb1])
      have y2 := kk d1
      have y3 := kk d2
      have z0 : wd.cell? ⟨V.heap.size, 0, none⟩ = some (.int .i64 n) := by rw [← hwd]; show wr.cell? _ = _; simp [World.cell?, hb0]
      have hspd : SpI R1 b (bdL L n pb qb j) wd := hsp.more hbd (fun k hk => .inl hk) (fun k hk => Nat.lt_of_lt_of_le (hsp.lt k hk) hbd.size)
      have hud : Upd (fun k => ¬ R1 k) V2 wd := hu.trans (Upd.any hbd (F := fun k => ¬ R1 k)) fun i hi => .inl hi
      have HSD := Lib.hid (And.intro hspd hud)
      have hokj := HOK.out.bd hM.1 hn j (by omega) (pb := pb) (qb := qb)
      have HPT := Lib.hid (put_any wd R1 b (bdL L n pb qb j) (n * 256 + j) 1 hspd (by omega) (by omega) (by have := hokj.1; omega) (fun s hs => by have := hokj.2 s hs; exact ⟨this.1, this.2.1, by omega⟩))
      have HBL : Hid (bdL L n pb qb (j + 1) = if x = y then bdL L n pb qb j else putS (bdL L n pb qb j) (n * 256 + j) 1) := Lib.hid (by rw [← hx, ← hy]; rfl)
      have w1 : IntKind.i64.wrap (n * 256) = n * 256 := IntWalk.i64_in _ (by omega)
      have w2 : IntKind.i64.wrap (n * 256 + j) = n * 256 + j := IntWalk.i64_in _ (by omega)
      clear hsp hu hb0 hb1 rd1 rd2 d1 d2 hbd kk hspd hud hokj hI hRR hRa hRb hx hy
      by_cases hxy : x = y
      · subst hxy
        have HB3 : Hid (bdL L n pb qb (j + 1) = bdL L n pb qb j) := Lib.hid (HBL.out.trans (if_pos rfl))
        clear HBL
        have hne : (x != x) = false := by simp
        go_wp2_with fail
        refine region_just hwd (by kernel_rfl) (by kernel_rfl) ?_
        repeat (go_big_quiet_step (fail))
        refine wpQuiet_nil ?_
        rintro _ ⟨q, rfl⟩
        rw [q.eq]
        go_wp2_with fail
        go_roundw
        case rel => exact ⟨j + 1, by omega, by go_num, Lib.hid (by rw [HB3.out]; exact HSD.out)⟩
        case measure => simp [intOf]; omega
      · have hne : (x != y) = true := by simp [hxy]
        have HXY := Lib.hid hxy
        clear hxy
        go_wp2_with fail
        refine region_just hwd (by kernel_rfl) (by kernel_rfl) ?_
        repeat (go_big_quiet_step (fail))
        refine wpQuiet_nil ?_
        rintro _ ⟨q, rfl⟩
        rw [q.eq]
        go_wp2_with fail
        refine HPT.out.mono ?_
        rintro e w3 ⟨rfl, hpe⟩
        have HPE : Hid (SpI R1 b (bdL L n pb qb (j + 1)) w3 ∧ Upd (fun k => ¬ R1 k) V2 w3) := Lib.hid ⟨by rw [HBL.out, if_neg HXY.out]; exact hpe.sp, HSD.out.2.trans hpe.upd fun i hi => .inl hi⟩
        clear hpe
        go_wp2_with fail
        go_roundw
        case rel => exact ⟨j + 1, by omega, by go_num, HPE⟩
        case measure => simp [intOf]; omega
    · obtain rfl : j = 256 := by omega
      have HSP := Lib.hid (And.intro hsp hu)
      clear hsp hu hI
      go_wp2_with fail
      go_end0
      obtain ⟨hsp, hu⟩ := HSP.out
      obtain ⟨hRR, _⟩ := HR.out
      obtain ⟨v, e1, e2, e3⟩ := hsp.ex
      refine ⟨rfl, ⟨⟨v, e1, e2, fun k hk hr => e3 k hk (hRR k hr)⟩, fun hr => hsp.nb (hRR b hr), fun k hk => hsp.lt k (hRR k hk)⟩, ?_⟩
      exact ((Upd.of_below HB2.out).mono (G := fun k => ¬ R k) fun k hk hr => by have := HLT.out k hr; omega).trans (hu.mono (G := fun k => ¬ R k) fun k hk hr => hk (hRR k hr)) fun i hi => .inl hi
end Go.Proofs.Ytidojcogojchpaa

/- mem's reference: Load of valid pages, Save, Same. -/
set_option linter.unusedVariables false
set_option linter.unusedSimpArgs false
namespace Go.Proofs.Ytidojcogojchpaa
open Go.RowKit Go.Shelf

/-- A memory of the reference, that has pages. -/
structure RfIs (W : World) (b : Nat) (ps : List PV) : Prop where
  ex : ∃ A c mv, W.heap[b]? = some (.cells #[.slice A ps.length c, mv] 106 (0, 0)) ∧ Rd W A ps.length 3 (flat ps)
  by_ : BytesAt W 0 ps
  ok : PsOk ps
theorem RfIs.below {W W' : World} {b : Nat} {ps : List PV} (h : RfIs W b ps) (hb : Below W.heap.size W W') : RfIs W' b ps := by
  obtain ⟨A, c, mv, h1, h2⟩ := h.ex
  exact ⟨⟨A, c, mv, belowBox hb h1, h2.below hb⟩, h.by_.below hb, h.ok⟩
theorem PsOk.see {ps qs : List PV} (h : PsOk ps) (hs : qs.map PV.see = ps.map PV.see) : PsOk qs := by
  have hn : qs.map (·.n) = ps.map (·.n) := by
    have := congrArg (List.map fun t : Int × Int × List Int => t.1) hs
    simpa [List.map_map, Function.comp_def, PV.see] using this
  have hmem : ∀ q ∈ qs, ∃ p ∈ ps, q.n = p.n ∧ q.r = p.r ∧ q.bs = p.bs := fun q hq => by
    have hm : q.see ∈ ps.map PV.see := by rw [← hs]; exact List.mem_map.2 ⟨q, hq, rfl⟩
    obtain ⟨p, hp, e⟩ := List.mem_map.1 hm
    simp only [PV.see, Prod.mk.injEq] at e
    exact ⟨p, hp, e.1.symm, e.2.1.symm, e.2.2.symm⟩
  refine ⟨by rw [hn]; exact h.up, fun q hq => ?_, fun q hq => ?_, ?_⟩
  · obtain ⟨p, hp, e1, _⟩ := hmem q hq
    rw [e1]; exact h.rng p hp
  · obtain ⟨p, hp, e1, e2, e3⟩ := hmem q hq
    rw [e2, e3]; exact h.ok p hp
  · have := congrArg List.length hs
    simp at this
    rw [this]; exact h.le
theorem PsOk.len {ps : List PV} (h : PsOk ps) : ∀ p ∈ ps, p.bs.length = 256 := fun p hp => (h.ok p hp).len
theorem PsOk.u8 {ps : List PV} (h : PsOk ps) : ∀ p ∈ ps, ∀ x ∈ p.bs, 0 ≤ x ∧ x < 256 := fun p hp => (h.ok p hp).u8
/-- Pages in rows of their own. -/
structure RwE (W : World) (ps : List PV) (e : Ending) (w' : World) : Prop where
  ex : ∃ Ad cap qs, e = .returned (.slice Ad qs.length cap) ∧ Rd w' Ad qs.length 3 (flat qs) ∧ (∀ ad, Ad = some ad → W.heap.size ≤ ad.block ∧ ad.block < w'.heap.size) ∧ qs.map PV.see = ps.map PV.see ∧ BytesAt w' W.heap.size qs
  below : Below W.heap.size W w'
theorem copies_rw (W : World) (A : Option Addr) (c : Nat) (ps : List PV) (hrd : Rd W A ps.length 3 (flat ps)) (hby : BytesAt W 0 ps) (hok : PsOk ps) :
    Calls Try.prog 58 #[.slice A ps.length c] W fun e w' => RwE W ps e w' := by
  refine (copies_any W A c ps hrd hby (fun p hp => by rw [hok.len p hp]; omega) (by have := hok.le; omega)).mono ?_
  rintro e w' ⟨v, rfl, qs, row, see, by_, hb⟩
  obtain ⟨Ad, cap, rfl, rd⟩ := own_rd row
  exact ⟨⟨Ad, cap, qs, rfl, rd, fun ad had => by subst had; exact row.lt ad.block rfl, see, by_⟩, hb⟩
set_option maxRecDepth 100000 in
set_option maxHeartbeats 2000000 in
theorem RLoad_ok (W : World) (A : Option Addr) (c : Nat) (ps : List PV) (hrd : Rd W A ps.length 3 (flat ps)) (hby : BytesAt W 0 ps) (hisp : isP ps = true) (hok : PsOk ps) :
    Calls Try.prog 15 #[.slice A ps.length c] W fun e w' => ∃ b qs, e = .returned (.tuple #[.pointer (some ⟨b, 0, none⟩), .int .i64 0]) ∧ RfIs w' b qs ∧ qs.map PV.see = ps.map PV.see ∧ Below W.heap.size W w' := by
  have HIP := Lib.hid (IsPages_any W A c ps hrd)
  rw [hisp] at HIP
  have hle := hok.le
  have h2 : ¬ (ps.length : Int) > 2000 := by omega
  have HRD := Lib.hid hrd
  have HBY := Lib.hid hby
  have HOK := Lib.hid hok
  clear hrd hby hok hisp
  go_enter Try.func15, Try.ntmps15
  go_wp2_with fail
  refine HIP.out.mono ?_
  rintro e w1 ⟨rfl, hb1⟩
  obtain ⟨w2, hw2⟩ : ∃ w2, w1.alloc (.cells #[.slice none 0 0, .slice none 0 0] 106) = w2 := ⟨_, rfl⟩
  have hb2 : Below w1.heap.size w1 w2 := by rw [← hw2]; exact balloc _ _
  have hx2 : w2.heap[w1.heap.size]? = some (.cells #[.slice none 0 0, .slice none 0 0] 106 (0, 0)) := by rw [← hw2]; exact heap_alloc_new _ _
  have hb12 := bvia hb1 hb2 (Nat.le_refl _)
  have HCP := Lib.hid (copies_rw w2 A c ps (HRD.out.below hb12) (HBY.out.below hb12) HOK.out)
  have HB12 := Lib.hid hb12
  have HX2 := Lib.hid hx2
  have hs1 : W.heap.size ≤ w1.heap.size := hb1.size
  clear hb1 hb2 hx2 hb12
  go_wp2_with fail
  refine HCP.out.mono ?_
  rintro e w3 ⟨⟨Ad, cap, qs, rfl, rd3, hlt3, see3, by3⟩, hb3⟩
  have hx3 := belowBox hb3 HX2.out
  have c0 : w3.cell? ⟨w1.heap.size, 0, none⟩ = some (.slice none 0 0) := by simp [World.cell?, hx3]
  have f0 : w3.frozen? ⟨w1.heap.size, 0, none⟩ = false := by simp [World.frozen?, hx3]
  have hlt2 : w1.heap.size < w2.heap.size := (Array.getElem?_eq_some_iff.1 HX2.out).1
  have hu : Upd (fun k => k = w1.heap.size) w3 (w3.setCell ⟨w1.heap.size, 0, none⟩ (.slice Ad qs.length cap)) := Upd.setCell w3 ⟨w1.heap.size, 0, none⟩ _
  have HR : Hid (RfIs (w3.setCell ⟨w1.heap.size, 0, none⟩ (.slice Ad qs.length cap)) w1.heap.size qs ∧ qs.map PV.see = ps.map PV.see ∧ Below W.heap.size W (w3.setCell ⟨w1.heap.size, 0, none⟩ (.slice Ad qs.length cap))) := by
    have hb13 := bvia HB12.out hb3 (Nat.le_refl _)
    refine Lib.hid ⟨⟨⟨Ad, cap, _, by rw [setCell_row hx3]; rfl, rd3.upd hu fun ad e hf => ?_⟩, fun p hp => ⟨(by3 p hp).1.upd hu fun ad e hf => ?_, (by3 p hp).2.1, fun _ _ => Nat.zero_le _⟩, HOK.out.see see3⟩, see3, hb13.trans (hu.below hb13.size fun k hk => by omega)⟩
    · have := (hlt3 ad e).1; omega
    · have := (by3 p hp).2.2 ad e; omega
  clear rd3 hlt3 see3 by3 hb3 hx3 hu
  go_wp2_with fail
  go_ret2
  exact ⟨_, qs, rfl, HR.out⟩
theorem RSave_ok (W : World) (b : Nat) (ps : List PV) (h : RfIs W b ps) :
    Calls Try.prog 63 #[.pointer (some ⟨b, 0, none⟩)] W fun e w' => RwE W ps e w' := by
  obtain ⟨A, c, mv, hx, hrd⟩ := h.ex
  have c0 : W.cell? ⟨b, 0, none⟩ = some (.slice A ps.length c) := by simp [World.cell?, hx]
  have HCP := Lib.hid (copies_rw W A c ps hrd h.by_ h.ok)
  clear h hx hrd
  go_enter Try.func63, Try.ntmps63
  go_wp2_with fail
  refine HCP.out.mono ?_
  rintro e w2 ⟨⟨Ad, cap, qs, rfl, rd, hlt, see, by_⟩, hb⟩
  have HR := Lib.hid (And.intro rd (And.intro hlt (And.intro see (And.intro by_ hb))))
  clear rd hlt see by_ hb
  go_wp2_with fail
  go_ret
  obtain ⟨rd, hlt, see, by_, hb⟩ := HR.out
  exact ⟨⟨Ad, cap, qs, rfl, rd, hlt, see, by_⟩, hb⟩
set_option maxHeartbeats 2000000 in
theorem RSame_ok (W : World) (a b : Nat) (ps qs : List PV) (h : RfIs W a ps) (h' : RfIs W b qs) :
    Calls Try.prog 20 #[.pointer (some ⟨a, 0, none⟩), .pointer (some ⟨b, 0, none⟩)] W fun e w' => e = .returned (.bool (decide (ps.map PV.see = qs.map PV.see))) ∧ Below W.heap.size W w' := by
  have H := Lib.hid h
  have H' := Lib.hid h'
  clear h h'
  go_enter Try.func20, Try.ntmps20
  go_wp2_with fail
  refine (RSave_ok W a ps H.out).mono ?_
  rintro e w1 ⟨⟨A1, c1, p1, rfl, rd1, _, see1, by1⟩, hb1⟩
  have HB1 := Lib.hid hb1
  have HS1 := Lib.hid (And.intro rd1 (And.intro see1 by1))
  have HQ := Lib.hid (H'.out.below hb1)
  clear rd1 see1 by1 hb1
  go_wp2_with fail
  refine (RSave_ok w1 b qs HQ.out).mono ?_
  rintro e w2 ⟨⟨A2, c2, p2, rfl, rd2, _, see2, by2⟩, hb2⟩
  obtain ⟨rd1, see1, by1⟩ := HS1.out
  have HB2 := Lib.hid (bvia HB1.out hb2 (Nat.le_refl _))
  have HSP := Lib.hid (SamePages_any w2 A1 A2 c1 c2 p1 p2 (rd1.below hb2) rd2 (by1.below hb2).zero by2.zero (H.out.ok.see see1).u8 (H'.out.ok.see see2).u8)
  have HE : Hid (sameP p1 p2 = decide (ps.map PV.see = qs.map PV.see)) := Lib.hid (by unfold sameP; rw [see1, see2])
  clear rd1 see1 by1 hb2 rd2 see2 by2
  go_wp2_with fail
  refine HSP.out.mono ?_
  rintro e w3 ⟨rfl, hb3⟩
  rw [HE.out]
  have HB3 := Lib.hid (bvia HB2.out hb3 (Nat.le_refl _))
  clear hb3
  go_wp2_with fail
  go_ret
  exact ⟨rfl, HB3.out⟩
theorem sameM_see (A C : PM) : sameM A C = decide (seeM A.ks A.pg = seeM C.ks C.pg) := by
  rw [Bool.eq_iff_iff]
  simp only [decide_eq_true_eq]
  constructor
  · intro h
    unfold sameM at h
    rw [Bool.and_eq_true, decide_eq_true_eq, List.all_eq_true] at h
    obtain ⟨h1, h2⟩ := h
    unfold seeM
    rw [← h1]
    refine List.map_congr_left fun k hk => ?_
    have := of_decide_eq_true (h2 k hk)
    rw [this.1, this.2]
  · intro h
    obtain ⟨h1, h2⟩ := seeM_eq h
    unfold sameM
    rw [decide_eq_true h1, Bool.true_and, List.all_eq_true]
    exact fun n hn => decide_eq_true (h2 n hn)
end Go.Proofs.Ytidojcogojchpaa

/- mem's laws: the reference's Diff, in plain words. -/
set_option linter.unusedVariables false
set_option linter.unusedSimpArgs false
namespace Go.Proofs.Ytidojcogojchpaa
open Go.RowKit Go.Shelf

def mU : List Int → List Int → List Int
  | [], ys => ys
  | x :: xs, [] => x :: xs
  | x :: xs, y :: ys => if x < y then x :: mU xs (y :: ys) else if y < x then y :: mU (x :: xs) ys else x :: mU xs ys
termination_by xs ys => xs.length + ys.length
theorem mU_nil (ys : List Int) : mU [] ys = ys := by rw [mU]
theorem mU_nil' (xs : List Int) : mU xs [] = xs := by cases xs <;> rw [mU]
theorem mU_cons (x y : Int) (xs ys : List Int) : mU (x :: xs) (y :: ys) = if x < y then x :: mU xs (y :: ys) else if y < x then y :: mU (x :: xs) ys else x :: mU xs ys := by rw [mU]
theorem mem_mU (z : Int) : ∀ (n : Nat) (xs ys : List Int), xs.length + ys.length ≤ n → (z ∈ mU xs ys ↔ z ∈ xs ∨ z ∈ ys)
  | 0, xs, ys, h => by
    have h1 : xs = [] := List.length_eq_zero_iff.1 (by omega)
    have h2 : ys = [] := List.length_eq_zero_iff.1 (by omega)
    subst h1; subst h2
    rw [mU_nil]; simp
  | n + 1, [], ys, h => by rw [mU_nil]; simp
  | n + 1, x :: xs, [], h => by rw [mU_nil']; simp
  | n + 1, x :: xs, y :: ys, h => by
    simp only [List.length_cons] at h
    rw [mU_cons]
    split
    · rw [List.mem_cons, mem_mU z n xs (y :: ys) (by simp only [List.length_cons]; omega)]; simp only [List.mem_cons]
      constructor <;> intro h
      · rcases h with h | h | h | h <;> simp [h]
      · rcases h with (h | h) | h | h <;> simp [h]
    · split
      · rw [List.mem_cons, mem_mU z n (x :: xs) ys (by simp only [List.length_cons]; omega)]; simp only [List.mem_cons]
        constructor <;> intro h
        · rcases h with h | (h | h) | h <;> simp [h]
        · rcases h with (h | h) | h | h <;> simp [h]
      · rename_i h1 h2
        have e : x = y := by omega
        subst e
        rw [List.mem_cons, mem_mU z n xs ys (by omega)]; simp only [List.mem_cons]
        constructor <;> intro h
        · rcases h with h | h | h <;> simp [h]
        · rcases h with (h | h) | h | h <;> simp [h]
theorem up_mU : ∀ (n : Nat) (xs ys : List Int), xs.length + ys.length ≤ n → Up xs → Up ys → Up (mU xs ys)
  | 0, xs, ys, h, hx, hy => by
    have h1 : xs = [] := List.length_eq_zero_iff.1 (by omega)
    subst h1
    rw [mU_nil]; exact hy
  | n + 1, [], ys, h, hx, hy => by rw [mU_nil]; exact hy
  | n + 1, x :: xs, [], h, hx, hy => by rw [mU_nil']; exact hx
  | n + 1, x :: xs, y :: ys, h, hx, hy => by
    simp only [List.length_cons] at h
    obtain ⟨hx1, hx2⟩ := List.pairwise_cons.1 hx
    obtain ⟨hy1, hy2⟩ := List.pairwise_cons.1 hy
    rw [mU_cons]
    split
    · refine List.pairwise_cons.2 ⟨fun z hz => ?_, up_mU n xs (y :: ys) (by simp only [List.length_cons]; omega) hx2 hy⟩
      rw [mem_mU z n xs (y :: ys) (by simp only [List.length_cons]; omega)] at hz
      rcases hz with hz | hz
      · exact hx1 z hz
      · rcases List.mem_cons.1 hz with hz | hz
        · omega
        · have := hy1 z hz; omega
    · split
      · refine List.pairwise_cons.2 ⟨fun z hz => ?_, up_mU n (x :: xs) ys (by simp only [List.length_cons]; omega) hx hy2⟩
        rw [mem_mU z n (x :: xs) ys (by simp only [List.length_cons]; omega)] at hz
        rcases hz with hz | hz
        · rcases List.mem_cons.1 hz with hz | hz
          · omega
          · have := hx1 z hz; omega
        · exact hy1 z hz
      · refine List.pairwise_cons.2 ⟨fun z hz => ?_, up_mU n xs ys (by omega) hx2 hy2⟩
        rw [mem_mU z n xs ys (by omega)] at hz
        rcases hz with hz | hz
        · exact hx1 z hz
        · have := hy1 z hz; omega
theorem mU_uni {xs ys : List Int} (hx : Up xs) (hy : Up ys) : mU xs ys = uni xs ys :=
  up_ext (up_mU _ xs ys (Nat.le_refl _) hx hy) (uni_up _ _) fun z => by rw [mem_mU z _ xs ys (Nat.le_refl _), uni_mem]
/-- The spans and where the last one ends. -/
def Fin (st : List (Int × Int) × Int) : Prop := (st.1 = [] ∧ st.2 = -1) ∨ ∃ l a n, st.1 = l ++ [(a, n)] ∧ st.2 = a + n
theorem spanS_put {st : List (Int × Int) × Int} {a : Int} (h : Fin st) (ha : 0 ≤ a) : spanS st a = (putS st.1 a 1, a + 1) := by
  obtain ⟨L, e⟩ := st
  unfold spanS
  rcases h with ⟨h1, h2⟩ | ⟨l, a0, n0, h1, h2⟩
  · simp only at h1 h2
    subst h1; subst h2
    rw [if_neg (by omega), putS_nil]
    rfl
  · simp only at h1 h2
    subst h1; subst h2
    simp only
    rw [putS_last]
    by_cases hc : a = a0 + n0
    · rw [if_pos hc, if_pos hc.symm, incL_snoc]
    · rw [if_neg hc, if_neg (fun e => hc e.symm), incL_snoc]
      rfl
theorem fin_put (L : List (Int × Int)) (a n : Int) : Fin (putS L a n, a + n) := by
  rcases Nat.eq_zero_or_pos L.length with hz | hp
  · obtain rfl : L = [] := List.length_eq_zero_iff.1 hz
    exact .inr ⟨[], a, n, rfl, rfl⟩
  · obtain ⟨l, a0, n0, rfl⟩ := last_split L (by intro e; subst e; simp at hp)
    rw [putS_last]
    split
    · exact .inr ⟨l, a0, n0 + n, rfl, by show a + n = a0 + (n0 + n); omega⟩
    · exact .inr ⟨l ++ [(a0, n0)], a, n, rfl, rfl⟩
theorem incL_put (L : List (Int × Int)) (a n : Int) : incL (putS L a n) = putS L a (n + 1) := by
  rcases Nat.eq_zero_or_pos L.length with hz | hp
  · obtain rfl : L = [] := List.length_eq_zero_iff.1 hz
    rfl
  · obtain ⟨l, a0, n0, rfl⟩ := last_split L (by intro e; subst e; simp at hp)
    rw [putS_last, putS_last]
    split
    · rw [incL_snoc]; congr 3; omega
    · rw [incL_snoc]
theorem run_put {st : List (Int × Int) × Int} {a : Int} (h : Fin st) (ha : 0 ≤ a) : ∀ m : Nat, ((List.range (m + 1)).map fun (j : Nat) => a + (j : Int)).foldl spanS st = (putS st.1 a ((m : Int) + 1), a + ((m : Int) + 1))
  | 0 => by
    have := spanS_put h ha
    simpa using this
  | m + 1 => by
    rw [List.range_succ, List.map_append, List.foldl_append, run_put h ha m]
    show spanS (putS st.1 a ((m : Int) + 1), a + ((m : Int) + 1)) (a + ((m + 1 : Nat) : Int)) = _
    unfold spanS
    rw [if_pos (by show a + ((m + 1 : Nat) : Int) = a + ((m : Int) + 1); omega), incL_put]
    rw [show ((m : Int) + 1 + 1) = (((m + 1 : Nat) : Int) + 1) by omega]
    congr 1
    omega
theorem fin_spans : ∀ (L : List Int), (∀ a ∈ L, 0 ≤ a) → ∀ st, Fin st → Fin (L.foldl spanS st)
  | [], _, st, h => h
  | a :: L, hL, st, h => by
    rw [List.foldl_cons]
    refine fin_spans L (fun b hb => hL b (List.mem_cons_of_mem _ hb)) _ ?_
    rw [spanS_put h (hL a (List.mem_cons_self ..))]
    exact fin_put _ _ _
set_option maxRecDepth 100000 in
theorem posP_all {A C : PM} {n : Int} (h : ¬ (n ∈ A.ks ∧ n ∈ C.ks)) : posP A C n 256 = (List.range (255 + 1)).map fun (j : Nat) => n * 256 + (j : Int) := by
  unfold posP
  refine congrArg _ (List.filter_eq_self.2 fun j _ => ?_)
  unfold dif
  by_cases h1 : n ∈ A.ks
  · have h2 : n ∉ C.ks := fun h2 => h ⟨h1, h2⟩
    simp [h2]
  · simp [h1]
set_option maxRecDepth 100000 in
/-- A page that only one has. -/
theorem step_one {A C : PM} {n : Int} {st : List (Int × Int) × Int} (hf : Fin st) (hn : 0 ≤ n) (h : ¬ (n ∈ A.ks ∧ n ∈ C.ks)) : ((posP A C n 256).foldl spanS st).1 = putS st.1 (n * 256) 256 := by
  have e := run_put hf (a := n * 256) (by omega) 255
  rw [posP_all h, e]
  show putS st.1 (n * 256) (((255 : Nat) : Int) + 1) = _
  rw [show (((255 : Nat) : Int) + 1) = 256 by omega]
/-- A page that both have. -/
theorem step_both {A C : PM} {n : Int} (hn : 0 ≤ n) (h1 : n ∈ A.ks) (h2 : n ∈ C.ks) {st : List (Int × Int) × Int} (hf : Fin st) : ∀ j : Nat, ((posP A C n j).foldl spanS st).1 = bdL st.1 n (A.pg n).bs (C.pg n).bs j ∧ Fin ((posP A C n j).foldl spanS st)
  | 0 => ⟨rfl, hf⟩
  | j + 1 => by
    obtain ⟨i1, i2⟩ := step_both hn h1 h2 hf j
    rw [posP_snoc, List.foldl_append]
    have hd : dif A C n j = !(decide (gi (A.pg n).bs j = gi (C.pg n).bs j)) := by unfold dif; rw [decide_eq_true h1, decide_eq_true h2]; simp
    by_cases he : gi (A.pg n).bs j = gi (C.pg n).bs j
    · rw [hd, decide_eq_true he]
      refine ⟨?_, i2⟩
      show _ = if _ then _ else _
      rw [if_pos he]
      exact i1
    · rw [hd, decide_eq_false he]
      simp only [Bool.not_false, if_true, List.foldl_cons, List.foldl_nil]
      rw [spanS_put i2 (by omega)]
      refine ⟨?_, fin_put _ _ _⟩
      show _ = if _ then _ else _
      rw [if_neg he, i1]
theorem posA_app (A C : PM) (done : List Int) (n : Int) : spans (posA A C (done ++ [n])) = (posP A C n 256).foldl spanS (spans (posA A C done)) := by
  unfold spans posA
  rw [List.flatMap_append, List.foldl_append]
  simp
theorem posA_nonneg {A C : PM} {done : List Int} (h : ∀ n ∈ done, 0 ≤ n) : ∀ a ∈ posA A C done, 0 ≤ a := by
  intro a ha
  obtain ⟨n, hn, hp⟩ := List.mem_flatMap.1 ha
  unfold posP at hp
  obtain ⟨j, _, rfl⟩ := List.mem_map.1 hp
  have := h n hn
  omega
theorem fin_pos {A C : PM} {done : List Int} (h : ∀ n ∈ done, 0 ≤ n) : Fin (spans (posA A C done)) := fin_spans _ (posA_nonneg h) _ (.inl ⟨rfl, rfl⟩)
end Go.Proofs.Ytidojcogojchpaa

/- mem's reference: Diff. -/
set_option linter.unusedVariables false
set_option linter.unusedSimpArgs false
namespace Go.Proofs.Ytidojcogojchpaa
open Go.RowKit Go.Shelf

/-- The pages of a list are those of a memory. -/
structure OfM (A : PM) (ps : List PV) : Prop where
  see : ps.map PV.see = seeM A.ks A.pg
  ok : PsOk ps
theorem OfM.ks {A : PM} {ps : List PV} (h : OfM A ps) : A.ks = ps.map (·.n) := by
  have := congrArg (List.map fun t : Int × Int × List Int => t.1) h.see
  simpa [seeM, List.map_map, Function.comp_def, PV.see] using this.symm
theorem OfM.at {A : PM} {ps : List PV} (h : OfM A ps) {i : Nat} (hi : i < ps.length) : (gp ps i).n ∈ A.ks ∧ (A.pg (gp ps i).n).bs = (gp ps i).bs := by
  have hm : (gp ps i).see ∈ seeM A.ks A.pg := by rw [← h.see]; exact List.mem_map.2 ⟨_, gp_mem ps i hi, rfl⟩
  obtain ⟨k, hk, e⟩ := List.mem_map.1 hm
  simp only [PV.see, Prod.mk.injEq] at e
  rw [← e.1]
  exact ⟨hk, e.2.2⟩
theorem OfM.drop {A : PM} {ps : List PV} {i : Nat} (hi : i < ps.length) : (ps.map (·.n)).drop i = (gp ps i).n :: (ps.map (·.n)).drop (i + 1) := by
  rw [List.drop_eq_getElem_cons (by simpa using hi)]
  simp [gp_get ps i hi]
theorem OfM.not_mem {A : PM} {ps : List PV} (h : OfM A ps) {i : Nat} {z : Int} (h1 : ∀ j, j < i → j < ps.length → (gp ps j).n < z) (h2 : i < ps.length → z < (gp ps i).n) : z ∉ A.ks := by
  rw [h.ks]
  intro hz
  obtain ⟨p, hp, e⟩ := List.mem_map.1 hz
  obtain ⟨j, hj, rfl⟩ := List.getElem_of_mem hp
  rw [← gp_get ps j hj] at e
  by_cases hji : j < i
  · have := h1 j hji hj; omega
  · by_cases hje : j = i
    · subst hje; have := h2 hj; omega
    · have h3 := h2 (by omega)
      have h4 : (gp ps i).n < (gp ps j).n := h.ok.lt2 (by omega) hj
      omega
/-- Between two rounds. -/
structure DxI (A C : PM) (X Y : List PV) (i k : Nat) (acc : List (Int × Int)) : Prop where
  ex : ∃ done : List Int, acc = (spans (posA A C done)).1 ∧ done ++ mU ((X.map (·.n)).drop i) ((Y.map (·.n)).drop k) = mU (X.map (·.n)) (Y.map (·.n)) ∧ ∀ n ∈ done, 0 ≤ n
  lo : ∀ j, j < i → j < X.length → ∀ m, k ≤ m → m < Y.length → (gp X j).n < (gp Y m).n
  lo' : ∀ j, j < k → j < Y.length → ∀ m, i ≤ m → m < X.length → (gp Y j).n < (gp X m).n
  ok : OkS acc ((i + k) * 256) (((i + k) * 256 : Nat) : Int)
section
variable {A C : PM} {X Y : List PV} {i k : Nat} {acc : List (Int × Int)}
theorem DxI.start : DxI A C X Y 0 0 [] := ⟨⟨[], rfl, by simp, by simp⟩, by intro j hj; omega, by intro j hj; omega, ⟨by simp, by simp⟩⟩
set_option maxRecDepth 100000 in
/-- The left list's page is next, and the right one has it not. -/
theorem DxI.left (h : DxI A C X Y i k acc) (hX : OfM A X) (hY : OfM C Y) (hi : i < X.length) (hk : k < Y.length → (gp X i).n < (gp Y k).n) : DxI A C X Y (i + 1) k (putS acc ((gp X i).n * 256) 256) := by
  obtain ⟨done, e1, e2, e3⟩ := h.ex
  have hr := hX.ok.rng _ (gp_mem X i hi)
  have hnot : (gp X i).n ∉ C.ks := hY.not_mem (fun j hj hj' => h.lo' j hj hj' i (Nat.le_refl _) hi) hk
  refine ⟨⟨done ++ [(gp X i).n], ?_, ?_, ?_⟩, ?_, ?_, ?_⟩
  · rw [posA_app, step_one (fin_pos e3) hr.1 (fun hc => hnot hc.2), ← e1]
  · rw [List.append_assoc, ← e2]
    congr 1
    rw [OfM.drop (A := A) hi]
    by_cases hky : k < Y.length
    · rw [OfM.drop (A := A) hky, mU_cons, if_pos (hk hky)]; rfl
    · have e : (Y.map (·.n)).drop k = [] := List.drop_eq_nil_of_le (by simp; omega)
      rw [e, mU_nil', mU_nil']; rfl
  · intro n hn
    rcases List.mem_append.1 hn with hn | hn
    · exact e3 n hn
    · obtain rfl : n = (gp X i).n := by simpa using hn
      exact hr.1
  · intro j hj hj' m hm hm'
    by_cases hji : j = i
    · subst hji
      have h1 := hk (by omega)
      by_cases hmk : m = k
      · subst hmk; exact h1
      · have := hY.ok.lt2 (i := k) (j := m) (by omega) hm'; omega
    · exact h.lo j (by omega) hj' m hm hm'
  · intro j hj hj' m hm hm'
    exact h.lo' j hj hj' m (by omega) hm'
  · have := h.ok.put (at_ := (gp X i).n * 256) (n := 256) (by omega) (by omega) (by omega)
    refine ⟨by have := this.1; omega, fun s hs => ?_⟩
    have := this.2 s hs
    exact ⟨this.1, this.2.1, by have := this.2.2; omega⟩
set_option maxRecDepth 100000 in
theorem DxI.right (h : DxI A C X Y i k acc) (hX : OfM A X) (hY : OfM C Y) (hk : k < Y.length) (hi : i < X.length → (gp Y k).n < (gp X i).n) : DxI A C X Y i (k + 1) (putS acc ((gp Y k).n * 256) 256) := by
  obtain ⟨done, e1, e2, e3⟩ := h.ex
  have hr := hY.ok.rng _ (gp_mem Y k hk)
  have hnot : (gp Y k).n ∉ A.ks := hX.not_mem (fun j hj hj' => h.lo j hj hj' k (Nat.le_refl _) hk) hi
  refine ⟨⟨done ++ [(gp Y k).n], ?_, ?_, ?_⟩, ?_, ?_, ?_⟩
  · rw [posA_app, step_one (fin_pos e3) hr.1 (fun hc => hnot hc.1), ← e1]
  · rw [List.append_assoc, ← e2]
    congr 1
    rw [OfM.drop (A := A) hk]
    by_cases hix : i < X.length
    · have := hi hix
      rw [OfM.drop (A := A) hix, mU_cons, if_neg (by omega), if_pos this]; rfl
    · have e : (X.map (·.n)).drop i = [] := List.drop_eq_nil_of_le (by simp; omega)
      rw [e, mU_nil, mU_nil]; rfl
  · intro n hn
    rcases List.mem_append.1 hn with hn | hn
    · exact e3 n hn
    · obtain rfl : n = (gp Y k).n := by simpa using hn
      exact hr.1
  · intro j hj hj' m hm hm'
    exact h.lo j hj hj' m (by omega) hm'
  · intro j hj hj' m hm hm'
    by_cases hji : j = k
    · subst hji
      have h1 := hi (by omega)
      by_cases hmk : m = i
      · subst hmk; exact h1
      · have := hX.ok.lt2 (i := i) (j := m) (by omega) hm'; omega
    · exact h.lo' j (by omega) hj' m hm hm'
  · have := h.ok.put (at_ := (gp Y k).n * 256) (n := 256) (by omega) (by omega) (by omega)
    refine ⟨by have := this.1; omega, fun s hs => ?_⟩
    have := this.2 s hs
    exact ⟨this.1, this.2.1, by have := this.2.2; omega⟩
set_option maxRecDepth 100000 in
theorem DxI.both (h : DxI A C X Y i k acc) (hX : OfM A X) (hY : OfM C Y) (hi : i < X.length) (hk : k < Y.length) (he : (gp X i).n = (gp Y k).n) : DxI A C X Y (i + 1) (k + 1) (bdL acc (gp X i).n (gp X i).bs (gp Y k).bs 256) := by
  obtain ⟨done, e1, e2, e3⟩ := h.ex
  have hr := hX.ok.rng _ (gp_mem X i hi)
  obtain ⟨m1, b1⟩ := hX.at hi
  obtain ⟨m2, b2⟩ := hY.at hk
  rw [← he] at m2 b2
  refine ⟨⟨done ++ [(gp X i).n], ?_, ?_, ?_⟩, ?_, ?_, ?_⟩
  · rw [posA_app, (step_both hr.1 m1 m2 (fin_pos e3) 256).1, ← e1, b1, b2]
  · rw [List.append_assoc, ← e2]
    congr 1
    rw [OfM.drop (A := A) hi, OfM.drop (A := A) hk, mU_cons, if_neg (by omega), if_neg (by omega)]; rfl
  · intro n hn
    rcases List.mem_append.1 hn with hn | hn
    · exact e3 n hn
    · obtain rfl : n = (gp X i).n := by simpa using hn
      exact hr.1
  · intro j hj hj' m hm hm'
    have h1 : (gp Y k).n < (gp Y m).n := hY.ok.lt2 (by omega) hm'
    by_cases hji : j = i
    · subst hji; omega
    · have := h.lo j (by omega) hj' m (by omega) hm'; omega
  · intro j hj hj' m hm hm'
    have h1 : (gp X i).n < (gp X m).n := hX.ok.lt2 (by omega) hm'
    by_cases hji : j = k
    · subst hji; omega
    · have := h.lo' j (by omega) hj' m (by omega) hm'; omega
  · have := h.ok.bd (n := (gp X i).n) (pb := (gp X i).bs) (qb := (gp Y k).bs) (by omega) hr 256 (by omega)
    refine ⟨by have := this.1; omega, fun s hs => ?_⟩
    have := this.2 s hs
    exact ⟨this.1, this.2.1, by have := this.2.2; omega⟩
theorem DxI.done (h : DxI A C X Y X.length Y.length acc) (hX : OfM A X) (hY : OfM C Y) : acc = diffL A C := by
  obtain ⟨done, e1, e2, e3⟩ := h.ex
  rw [List.drop_eq_nil_of_le (by simp), List.drop_eq_nil_of_le (by simp), mU_nil, List.append_nil, ← hX.ks, ← hY.ks] at e2
  have ux : Up A.ks := by rw [hX.ks]; exact hX.ok.up
  have uy : Up C.ks := by rw [hY.ks]; exact hY.ok.up
  rw [mU_uni ux uy] at e2
  rw [e1, e2]; rfl
end
end Go.Proofs.Ytidojcogojchpaa

/- mem's reference: Diff, the walk. (printed by gen/ry.py) -/
set_option linter.unusedVariables false
set_option linter.unusedSimpArgs false
namespace Go.Proofs.Ytidojcogojchpaa
open Go.RowKit Go.Shelf

/-- What the loop carries. -/
def RyI (R : Nat → Prop) (b : Nat) (A C : PM) (X Y : List PV) (V1 : World) (i k : Nat) (wr : World) : Prop := ∃ acc, SpI R b acc wr ∧ Upd (fun k => ¬ R k) V1 wr ∧ DxI A C X Y i k acc
theorem RyI.drew {R : Nat → Prop} {b : Nat} {A C : PM} {X Y : List PV} {V1 : World} {i k : Nat} {wr wd : World} (h : RyI R b A C X Y V1 i k wr) (hd : wr.drew = wd) : RyI R b A C X Y V1 i k wd := by
  obtain ⟨acc, h1, h2, h3⟩ := h
  have hbd : Below wr.heap.size wr wd := by rw [← hd]; exact bdrewN (Below.refl _ wr) 1
  exact ⟨acc, h1.more hbd (fun k hk => .inl hk) (fun k hk => Nat.lt_of_lt_of_le (h1.lt k hk) hbd.size), h2.trans (Upd.any hbd (F := fun k => ¬ R k)) fun i hi => .inl hi, h3⟩
set_option maxRecDepth 1000000 in
set_option maxHeartbeats 8000000 in
theorem RDiff_ok (W : World) (a b : Nat) (A C : PM) (ps qs : List PV) (h : RfIs W a ps) (h' : RfIs W b qs) (hA : ps.map PV.see = seeM A.ks A.pg) (hC : qs.map PV.see = seeM C.ks C.pg) (hl : ps.length ≤ 400) (hl' : qs.length ≤ 400) :
    Calls Try.prog 18 #[.pointer (some ⟨a, 0, none⟩), .pointer (some ⟨b, 0, none⟩)] W fun e w' => SpansU (diffL A C) W e w' := by
  have H := Lib.hid h
  have H' := Lib.hid h'
  have HA := Lib.hid hA
  have HC := Lib.hid hC
  clear h h' hA hC
  go_enter Try.func18, Try.ntmps18
  go_wp2_with fail
  refine (RSave_ok W a ps H.out).mono ?_
  rintro e w1 ⟨⟨A1, c1, X, rfl, rd1, lt1, see1, by1⟩, hb1⟩
  have HB1 := Lib.hid hb1
  have HS1 := Lib.hid (And.intro rd1 (And.intro lt1 (And.intro see1 by1)))
  have HQ := Lib.hid (H'.out.below hb1)
  clear rd1 lt1 see1 by1 hb1
  go_wp2_with fail
  refine (RSave_ok w1 b qs HQ.out).mono ?_
  rintro e w2 ⟨⟨A2, c2, Y, rfl, rd2, lt2, see2, by2⟩, hb2⟩
  obtain ⟨rd1, lt1, see1, by1⟩ := HS1.out
  have hxl : X.length = ps.length := by have := congrArg List.length see1; simpa using this
  have hyl : Y.length = qs.length := by have := congrArg List.length see2; simpa using this
  have HOX : Hid (OfM A X) := Lib.hid ⟨see1.trans HA.out, H.out.ok.see see1⟩
  have HOY : Hid (OfM C Y) := Lib.hid ⟨see2.trans HC.out, H'.out.ok.see see2⟩
  obtain ⟨V1, hV1⟩ : ∃ V1, w2.alloc (.cells #[.slice none 0 0] 112) = V1 := ⟨_, rfl⟩
  have hbv : Below w2.heap.size w2 V1 := by rw [← hV1]; exact balloc _ _
  have hxv : V1.heap[w2.heap.size]? = some (.cells #[.slice none 0 0] 112 (0, 0)) := by rw [← hV1]; exact heap_alloc_new _ _
  obtain ⟨R, hR⟩ : ∃ R : Nat → Prop, R = fun k => k < w2.heap.size := ⟨_, rfl⟩
  have hbl : w2.heap.size < V1.heap.size := (Array.getElem?_eq_some_iff.1 hxv).1
  have hsp : SpI R w2.heap.size [] V1 := ⟨⟨_, hxv, World.ownsRow_nil _ _ _ _, fun k hk => by cases hk⟩, by rw [hR]; exact Nat.lt_irrefl _, fun k hk => by rw [hR] at hk; omega⟩
  have HRX := Lib.hid (rd1.below (hb2.trans (hbv.mono hb2.size)) : Rd V1 A1 X.length 3 (flat X))
  have HRY := Lib.hid (rd2.below hbv)
  have HYX := Lib.hid (by1.below (hb2.trans (hbv.mono hb2.size)))
  have HYY := Lib.hid (by2.below hbv)
  have HRA : Hid ((∀ ad, A1 = some ad → R ad.block) ∧ (∀ ad, A2 = some ad → R ad.block)) := Lib.hid ⟨fun ad e => by rw [hR]; have := (lt1 ad e).2; have := hb2.size; show ad.block < _; omega, fun ad e => by rw [hR]; exact (lt2 ad e).2⟩
  have HRP : Hid ((∀ p ∈ X, ∀ ad, p.A = some ad → p.bs.length = 256 → R ad.block) ∧ (∀ p ∈ Y, ∀ ad, p.A = some ad → p.bs.length = 256 → R ad.block)) := by
    refine Lib.hid ⟨fun p hp ad e h256 => ?_, fun p hp ad e h256 => ?_⟩
    · rw [hR]; have := (by1 p hp).1.old (by rw [h256]; omega) ad e; have := hb2.size; show ad.block < _; omega
    · rw [hR]; exact (by2 p hp).1.old (by rw [h256]; omega) ad e
  have HB2 := Lib.hid (bvia HB1.out hb2 (Nat.le_refl _))
  have HBV := Lib.hid (bvia HB2.out hbv (Nat.le_refl _))
  have HRW : Hid (∀ k, k < W.heap.size → R k) := Lib.hid fun k hk => by rw [hR]; have := HB2.out.size; show k < _; omega
  have HI0 : Hid (RyI R w2.heap.size A C X Y V1 0 0 V1) := Lib.hid ⟨[], hsp, Upd.refl _ _, DxI.start⟩
  have hb1' : W.heap.size ≤ w2.heap.size := HB2.out.size
  obtain ⟨sb, hsb⟩ : ∃ sb, w2.heap.size = sb := ⟨_, rfl⟩
  rw [hsb] at HI0 hb1'
  have hx400 : X.length ≤ 400 := by omega
  have hy400 : Y.length ≤ 400 := by omega
  clear rd1 lt1 see1 by1 hb2 rd2 lt2 see2 by2 hbv hxv hsp hbl hR hxl hyl
  go_wp2_with fail
  go_loopw [8, 9] (fun vi vk wr => ∃ i k : Nat, i ≤ X.length ∧ k ≤ Y.length ∧ vi = .int .i64 i ∧ vk = .int .i64 k ∧ Hid (RyI R sb A C X Y V1 i k wr)) (fun vi vk _ => (X.length + Y.length) - ((intOf vi).toNat + (intOf vk).toNat))
  case atStart => exact ⟨0, 0, Nat.zero_le _, Nat.zero_le _, rfl, rfl, HI0⟩
  case round =>
    obtain ⟨i, k, hi, hk, rfl, rfl, hI⟩ := hrel
    obtain ⟨wd, hwd⟩ : ∃ wd, wr.drew = wd := ⟨_, rfl⟩
    obtain ⟨we, hwe⟩ : ∃ we, wd.drew = we := ⟨_, rfl⟩
    obtain ⟨wf, hwf⟩ : ∃ wf, we.drew = wf := ⟨_, rfl⟩
    have HID := Lib.hid (hI.out.drew hwd)
    have HIE := Lib.hid (HID.out.drew hwe)
    have HIF := Lib.hid (HIE.out.drew hwf)
    have keepC : ∀ (wx : World), RyI R sb A C X Y V1 i k wx → (∀ (hi' : i < X.length), ∃ ad, A1 = some ad ∧ wx.cell? (ad.add (i * 3)) = some (.int .i64 (gp X i).n) ∧ wx.cell? ⟨(ad.add (i * 3)).block, (ad.add (i * 3)).off + 1, none⟩ = some (.int .i64 (gp X i).r) ∧ wx.cell? ⟨(ad.add (i * 3)).block, (ad.add (i * 3)).off + 2, none⟩ = some (.slice (gp X i).A (gp X i).bs.length (gp X i).c)) ∧ (∀ (hk' : k < Y.length), ∃ ad, A2 = some ad ∧ wx.cell? (ad.add (k * 3)) = some (.int .i64 (gp Y k).n) ∧ wx.cell? ⟨(ad.add (k * 3)).block, (ad.add (k * 3)).off + 1, none⟩ = some (.int .i64 (gp Y k).r) ∧ wx.cell? ⟨(ad.add (k * 3)).block, (ad.add (k * 3)).off + 2, none⟩ = some (.slice (gp Y k).A (gp Y k).bs.length (gp Y k).c)) := fun wx hx => by
      obtain ⟨acc, _, hu, _⟩ := hx
      exact ⟨fun hi' => (HRX.out.upd hu fun ad e hf => hf (HRA.out.1 ad e)).at3 i hi', fun hk' => (HRY.out.upd hu fun ad e hf => hf (HRA.out.2 ad e)).at3 k hk'⟩
    by_cases hik : i < X.length ∨ k < Y.length
    · by_cases hky : k < Y.length
      · by_cases hix : i < X.length
        · obtain ⟨ad1, e1, x0, x1, x2⟩ := (keepC wr hI.out).1 hix
          obtain ⟨ad2, e2, y0, y1, y2⟩ := (keepC wr hI.out).2 hky
          subst e1
          subst e2
          have hrx := HOX.out.ok.rng _ (gp_mem X i hix)
          have hry := HOY.out.ok.rng _ (gp_mem Y k hky)
          have hlx := HOX.out.ok.len _ (gp_mem X i hix)
          have hly := HOY.out.ok.len _ (gp_mem Y k hky)
          have HMX := Lib.hid (gp_mem X i hix)
          have HMY := Lib.hid (gp_mem Y k hky)
          obtain ⟨n, hn⟩ : ∃ n, (gp X i).n = n := ⟨_, rfl⟩
          obtain ⟨n', hn'⟩ : ∃ n', (gp Y k).n = n' := ⟨_, rfl⟩
          rw [hn] at x0 hrx
          rw [hn'] at y0 hry
          rw [hlx] at x2
          rw [hly] at y2
          have HN := Lib.hid hn
          have HN' := Lib.hid hn'
          have kd : ∀ {x : Addr} {v : Value}, wr.cell? x = some v → (∀ q : Just wd, q.W.cell? x = some v) ∧ (∀ q : Just we, q.W.cell? x = some v) ∧ wd.cell? x = some v ∧ we.cell? x = some v := fun h => ⟨fun q => Just.cell (by rw [← hwd]; exact h) q, fun q => Just.cell (by rw [← hwe, ← hwd]; exact h) q, by rw [← hwd]; exact h, by rw [← hwe, ← hwd]; exact h⟩
          obtain ⟨qx0, ex0, dx0, fx0⟩ := kd x0
          obtain ⟨qy0, ey0, dy0, fy0⟩ := kd y0
          obtain ⟨_, _, _, fx1⟩ := kd x1
          obtain ⟨_, _, _, fx2⟩ := kd x2
          obtain ⟨_, _, _, fy1⟩ := kd y1
          obtain ⟨_, _, _, fy2⟩ := kd y2
          have g1 : decide ((k : Int) ≥ (Y.length : Int)) = false := by simp; omega
          have g2 : decide ((i : Int) < (X.length : Int)) = true := by simp; omega
          have g3 : decide ((i : Int) ≥ (X.length : Int)) = false := by simp; omega
          have g2n : decide (i < X.length) = true := by simp [hix]
          have g1n : decide (Y.length ≤ k) = false := by simp; omega
          have g3n : decide (X.length ≤ i) = false := by simp; omega
          have w1 : IntKind.i64.wrap (n * 256) = n * 256 := IntWalk.i64_in _ (by omega)
          have w1' : IntKind.i64.wrap (n' * 256) = n' * 256 := IntWalk.i64_in _ (by omega)
          rcases Int.lt_trichotomy n n' with hc | hc | hc
          · have hlt : decide (n < n') = true := by simp [hc]
            have HC1 := Lib.hid hc
            obtain ⟨acc, hsp, hu, hdx⟩ := HID.out
            have HPT := Lib.hid (put_any wd R sb acc (n * 256) 256 hsp (by omega) (by omega) (by have := hdx.ok.1; omega) (fun s hs => by have := hdx.ok.2 s hs; exact ⟨this.1, this.2.1, by omega⟩))
            have HDX := Lib.hid (hdx.left HOX.out HOY.out hix fun _ => by rw [HN.out, HN'.out]; exact HC1.out)
            rw [HN.out] at HDX
            have HU := Lib.hid hu
            clear hsp hu hdx x0 x1 x2 y0 y1 y2 keepC kd hn hn' hlx hly hI HIE HIF hc fx0 fx1 fx2 fy0 fy1 fy2
            go_wp2_with fail
            refine region_just hwd (by kernel_rfl) (by kernel_rfl) ?_
            repeat (go_big_quiet_step (fail))
            refine wpQuiet_nil ?_
            rintro _ ⟨q, rfl⟩
            rw [q.eq]
            go_wp2_with fail
            refine HPT.out.mono ?_
            rintro e w9 ⟨rfl, hpe⟩
            have HNX : Hid (RyI R sb A C X Y V1 (i + 1) k w9) := Lib.hid ⟨_, hpe.sp, HU.out.trans hpe.upd fun i hi => .inl hi, HDX.out⟩
            clear hpe
            go_wp2_with fail
            go_roundw
            case rel => exact ⟨i + 1, k, by omega, hk, by go_num, rfl, HNX⟩
            case measure => simp [intOf]; omega
          · subst hc
            have hlt : decide (n < n) = false := by simp
            have HEQ : Hid ((gp X i).n = (gp Y k).n) := Lib.hid (by rw [HN.out, HN'.out])
            obtain ⟨acc, hsp, hu, hdx⟩ := HIF.out
            have rbx := (HYX.out _ HMX.out).1.upd hu fun ad e hf => hf (HRP.out.1 _ HMX.out ad e hlx)
            have rby := (HYY.out _ HMY.out).1.upd hu fun ad e hf => hf (HRP.out.2 _ HMY.out ad e hly)
            have ccx := (HYX.out _ HMX.out).2.1
            have ccy := (HYY.out _ HMY.out).2.1
            rw [hlx] at rbx ccx
            rw [hly] at rby ccy
            obtain ⟨rp, hrp⟩ : ∃ z, (gp X i).r = z := ⟨_, rfl⟩
            obtain ⟨rq, hrq⟩ : ∃ z, (gp Y k).r = z := ⟨_, rfl⟩
            obtain ⟨Ap, hAp⟩ : ∃ z, (gp X i).A = z := ⟨_, rfl⟩
            obtain ⟨Aq, hAq⟩ : ∃ z, (gp Y k).A = z := ⟨_, rfl⟩
            obtain ⟨cp, hcp⟩ : ∃ z, (gp X i).c = z := ⟨_, rfl⟩
            obtain ⟨cq, hcq⟩ : ∃ z, (gp Y k).c = z := ⟨_, rfl⟩
            have HBD := Lib.hid (bytesDiffer_any wf R sb acc _ _ n n rp rq Ap Aq cp cq (gp X i).bs (gp Y k).bs hsp hdx.ok (by omega) (by omega) (by rw [← hAp]; exact rbx) (by rw [← hAq]; exact rby) (fun ad e => HRP.out.1 _ HMX.out ad (by rw [hAp]; exact e) hlx) (fun ad e => HRP.out.2 _ HMY.out ad (by rw [hAq]; exact e) hly) hrx (by rw [← hcp]; exact ccx) (by rw [← hcq]; exact ccy) (HOX.out.ok.u8 _ HMX.out) (HOY.out.ok.u8 _ HMY.out))
            have HDX := Lib.hid (hdx.both HOX.out HOY.out hix hky HEQ.out)
            rw [HN.out] at HDX
            have HU := Lib.hid hu
            have kf : ∀ {x : Addr} {v : Value}, we.cell? x = some v → ∀ q : Just wf, q.W.cell? x = some v := fun h q => Just.cell (by rw [← hwf]; exact h) q
            have hx0 := kf fx0
            have hx1 := kf fx1
            have hx2 := kf fx2
            have hy0 := kf fy0
            have hy1 := kf fy1
            have hy2 := kf fy2
            rw [hrp] at hx1
            rw [hrq] at hy1
            rw [hAp, hcp] at hx2
            rw [hAq, hcq] at hy2
            clear hsp hu hdx x0 x1 x2 y0 y1 y2 keepC kd hn hn' hlx hly hI HID HIE rbx rby ccx ccy hrp hrq hAp hAq hcp hcq kf dx0 dy0 fx0 fx1 fx2 fy0 fy1 fy2
            go_wp2_with fail
            refine region_just hwd (by kernel_rfl) (by kernel_rfl) ?_
            repeat (go_big_quiet_step (fail))
            refine wpQuiet_nil ?_
            rintro _ ⟨q, rfl⟩
            rw [q.eq]
            go_wp2_with fail
            refine region_just hwe (by kernel_rfl) (by kernel_rfl) ?_
            repeat (go_big_quiet_step (fail))
            refine wpQuiet_nil ?_
            rintro _ ⟨q2, rfl⟩
            rw [q2.eq]
            go_wp2_with fail
            refine region_tail 9 hwf (by kernel_rfl) (by kernel_rfl) ?_
            simp only [List.take_succ_cons, List.take_zero, List.drop_succ_cons, List.drop_zero]
            repeat (go_big_quiet_step (fail))
            refine wpQuiet_nil ?_
            go_wp2_with fail
            refine HBD.out.mono ?_
            rintro e w9 ⟨rfl, hpe⟩
            have HNX : Hid (RyI R sb A C X Y V1 (i + 1) (k + 1) w9) := Lib.hid ⟨_, hpe.sp, HU.out.trans hpe.upd fun i hi => .inl hi, HDX.out⟩
            clear hpe
            go_wp2_with fail
            go_roundw
            case rel => exact ⟨i + 1, k + 1, by omega, by omega, by go_num, by go_num, HNX⟩
            case measure => simp [intOf]; omega
          · have hlt : decide (n < n') = false := by simp; omega
            have hlt2 : decide (n' < n) = true := by simp [hc]
            have HC1 := Lib.hid hc
            obtain ⟨acc, hsp, hu, hdx⟩ := HIE.out
            have HPT := Lib.hid (put_any we R sb acc (n' * 256) 256 hsp (by omega) (by omega) (by have := hdx.ok.1; omega) (fun s hs => by have := hdx.ok.2 s hs; exact ⟨this.1, this.2.1, by omega⟩))
            have HDX := Lib.hid (hdx.right HOX.out HOY.out hky fun _ => by rw [HN.out, HN'.out]; exact HC1.out)
            rw [HN'.out] at HDX
            have HU := Lib.hid hu
            clear hsp hu hdx x0 x1 x2 y0 y1 y2 keepC kd hn hn' hlx hly hI HID HIF hc
            go_wp2_with fail
            refine region_just hwd (by kernel_rfl) (by kernel_rfl) ?_
            repeat (go_big_quiet_step (fail))
            refine wpQuiet_nil ?_
            rintro _ ⟨q, rfl⟩
            rw [q.eq]
            go_wp2_with fail
            refine region_just hwe (by kernel_rfl) (by kernel_rfl) ?_
            repeat (go_big_quiet_step (fail))
            refine wpQuiet_nil ?_
            rintro _ ⟨q2, rfl⟩
            rw [q2.eq]
            go_wp2_with fail
            refine HPT.out.mono ?_
            rintro e w9 ⟨rfl, hpe⟩
            have HNX : Hid (RyI R sb A C X Y V1 i (k + 1) w9) := Lib.hid ⟨_, hpe.sp, HU.out.trans hpe.upd fun i hi => .inl hi, HDX.out⟩
            clear hpe
            go_wp2_with fail
            go_roundw
            case rel => exact ⟨i, k + 1, hi, by omega, rfl, by go_num, HNX⟩
            case measure => simp [intOf]; omega
        · obtain ⟨ad2, e2, y0, y1, y2⟩ := (keepC wr hI.out).2 hky
          subst e2
          obtain rfl : i = X.length := by omega
          have hry := HOY.out.ok.rng _ (gp_mem Y k hky)
          obtain ⟨n', hn'⟩ : ∃ n', (gp Y k).n = n' := ⟨_, rfl⟩
          rw [hn'] at y0 hry
          have HN' := Lib.hid hn'
          have ey0 : we.cell? (ad2.add (k * 3)) = some (.int .i64 n') := by rw [← hwe, ← hwd]; exact y0
          have g1 : decide ((k : Int) ≥ (Y.length : Int)) = false := by simp; omega
          have g2 : decide ((X.length : Int) < (X.length : Int)) = false := by simp
          have g3 : decide ((X.length : Int) ≥ (X.length : Int)) = true := by simp
          have g2n : decide (X.length < X.length) = false := by simp
          have g1n : decide (Y.length ≤ k) = false := by simp; omega
          have g3n : decide (X.length ≤ X.length) = true := by simp
          have w1' : IntKind.i64.wrap (n' * 256) = n' * 256 := IntWalk.i64_in _ (by omega)
          obtain ⟨acc, hsp, hu, hdx⟩ := HIE.out
          have HPT := Lib.hid (put_any we R sb acc (n' * 256) 256 hsp (by omega) (by omega) (by have := hdx.ok.1; omega) (fun s hs => by have := hdx.ok.2 s hs; exact ⟨this.1, this.2.1, by omega⟩))
          have HDX := Lib.hid (hdx.right HOX.out HOY.out hky fun h => absurd h (Nat.lt_irrefl _))
          rw [HN'.out] at HDX
          have HU := Lib.hid hu
          clear hsp hu hdx y0 y1 y2 keepC hn' hI HID HIF hik hix
          go_wp2_with fail
          refine region_just hwd (by kernel_rfl) (by kernel_rfl) ?_
          repeat (go_big_quiet_step (fail))
          refine wpQuiet_nil ?_
          rintro _ ⟨q, rfl⟩
          rw [q.eq]
          go_wp2_with fail
          refine region_just hwe (by kernel_rfl) (by kernel_rfl) ?_
          repeat (go_big_quiet_step (fail))
          refine wpQuiet_nil ?_
          rintro _ ⟨q2, rfl⟩
          rw [q2.eq]
          go_wp2_with fail
          refine HPT.out.mono ?_
          rintro e w9 ⟨rfl, hpe⟩
          have HNX : Hid (RyI R sb A C X Y V1 X.length (k + 1) w9) := Lib.hid ⟨_, hpe.sp, HU.out.trans hpe.upd fun i hi => .inl hi, HDX.out⟩
          clear hpe
          go_wp2_with fail
          go_roundw
          case rel => exact ⟨X.length, k + 1, hi, by omega, rfl, by go_num, HNX⟩
          case measure => simp [intOf]; omega
      · have hix : i < X.length := by omega
        obtain rfl : k = Y.length := by omega
        obtain ⟨ad1, e1, x0, x1, x2⟩ := (keepC wr hI.out).1 hix
        subst e1
        have hrx := HOX.out.ok.rng _ (gp_mem X i hix)
        obtain ⟨n, hn⟩ : ∃ n, (gp X i).n = n := ⟨_, rfl⟩
        rw [hn] at x0 hrx
        have HN := Lib.hid hn
        have dx0 : wd.cell? (ad1.add (i * 3)) = some (.int .i64 n) := by rw [← hwd]; exact x0
        have g1 : decide ((Y.length : Int) ≥ (Y.length : Int)) = true := by simp
        have g1n : decide (Y.length ≤ Y.length) = true := by simp
        have g2 : decide ((i : Int) < (X.length : Int)) = true := by simp; omega
        have w1 : IntKind.i64.wrap (n * 256) = n * 256 := IntWalk.i64_in _ (by omega)
        obtain ⟨acc, hsp, hu, hdx⟩ := HID.out
        have HPT := Lib.hid (put_any wd R sb acc (n * 256) 256 hsp (by omega) (by omega) (by have := hdx.ok.1; omega) (fun s hs => by have := hdx.ok.2 s hs; exact ⟨this.1, this.2.1, by omega⟩))
        have HDX := Lib.hid (hdx.left HOX.out HOY.out hix fun h => absurd h (Nat.lt_irrefl _))
        rw [HN.out] at HDX
        have HU := Lib.hid hu
        clear hsp hu hdx x0 x1 x2 keepC hn hI HIE HIF hik hky
        go_wp2_with fail
        refine region_just hwd (by kernel_rfl) (by kernel_rfl) ?_
        repeat (go_big_quiet_step (fail))
        refine wpQuiet_nil ?_
        rintro _ ⟨q, rfl⟩
        rw [q.eq]
        go_wp2_with fail
        refine HPT.out.mono ?_
        rintro e w9 ⟨rfl, hpe⟩
        have HNX : Hid (RyI R sb A C X Y V1 (i + 1) Y.length w9) := Lib.hid ⟨_, hpe.sp, HU.out.trans hpe.upd fun i hi => .inl hi, HDX.out⟩
        clear hpe
        go_wp2_with fail
        go_roundw
        case rel => exact ⟨i + 1, Y.length, by omega, hk, by go_num, rfl, HNX⟩
        case measure => simp [intOf]; omega
    · obtain rfl : i = X.length := by omega
      obtain rfl : k = Y.length := by omega
      obtain ⟨acc, hsp, hu, hdx⟩ := hI.out
      have hdn := hdx.done HOX.out HOY.out
      subst hdn
      obtain ⟨v, e1, e2, e3⟩ := hsp.ex
      obtain ⟨Av, cv, rfl, rdv⟩ := own_rd e2
      have c0 : wr.cell? ⟨sb, 0, none⟩ = some (.slice Av (diffL A C).length cv) := by simp [World.cell?, e1]
      have HFIN : Hid (SpansU (diffL A C) W (.returned (.slice Av (diffL A C).length cv)) wr) := by
        refine Lib.hid ⟨⟨Av, cv, rfl, rdv, fun ad e => ?_⟩, HBV.out.trans (hu.below HBV.out.size fun k hk => ?_)⟩
        · subst e
          have := e3 ad.block rfl
          by_cases h : ad.block < W.heap.size
          · exact absurd (HRW.out _ h) this
          · omega
        · by_cases h : k < W.heap.size
          · exact absurd (HRW.out _ h) hk
          · omega
      obtain ⟨dl, hdl⟩ : ∃ dl, diffL A C = dl := ⟨_, rfl⟩
      rw [hdl] at c0 HFIN
      have HDL := Lib.hid hdl
      clear hsp hu hdx e1 e2 e3 rdv keepC hI HID HIE HIF hik hwd hwe hwf hdl
      go_wp2_with fail
      go_ret
      rw [HDL.out]
      exact HFIN.out
end Go.Proofs.Ytidojcogojchpaa

/- mem's laws: MemDiffs. -/
set_option linter.unusedVariables false
set_option linter.unusedSimpArgs false
namespace Go.Proofs.Ytidojcogojchpaa
open Go.RowKit Go.Shelf

set_option maxRecDepth 1000000 in
set_option maxHeartbeats 8000000 in
theorem diffs_any (A : Option Addr) (c : Nat) (ps : List PV) (D : Option Addr) (cd : Nat) (qs : List PV) (w : World) (hp : PsIn w A c ps) (hq : PsIn w D cd qs) :
    Calls Try.prog 3 #[.slice A ps.length c, .slice D qs.length cd] w fun e w' => e = .returned (.bool true) ∧ Below w.heap.size w w' := by
  have HP := Lib.hid hp
  have HQ := Lib.hid hq
  have hlen := hp.rd.le
  have hlen2 := hq.rd.le
  have hcp := hp.cap
  have hcq := hq.cap
  clear hp hq
  go_enter Try.func3, Try.ntmps3
  go_wp2_with fail
  refine (sane_any w).mono ?_
  rintro e W1 ⟨rfl, hb1⟩
  have HB1 := Lib.hid hb1
  clear hb1
  by_cases h1 : (ps.length : Int) > 40
  · go_wp2_with fail
    go_ret
    exact ⟨rfl, HB1.out⟩
  by_cases h2 : (qs.length : Int) > 40
  · go_wp2_with fail
    go_ret
    exact ⟨rfl, HB1.out⟩
  have HI1 := Lib.hid (IsPages_any W1 A c ps (HP.out.below HB1.out).rd)
  cases hisp : isP ps with
  | false =>
    rw [hisp] at HI1
    clear hisp
    go_wp2_with fail
    refine HI1.out.mono ?_
    rintro e W2 ⟨rfl, hb2⟩
    have HB2 := Lib.hid (bvia HB1.out hb2 (Nat.le_refl _))
    clear hb2
    go_wp2_with fail
    go_ret
    exact ⟨rfl, HB2.out⟩
  | true =>
    rw [hisp] at HI1
    have HISP := Lib.hid hisp
    clear hisp
    go_wp2_with fail
    refine HI1.out.mono ?_
    rintro e W2 ⟨rfl, hb2⟩
    have HB2 := Lib.hid (bvia HB1.out hb2 (Nat.le_refl _))
    clear hb2
    have HI2 := Lib.hid (IsPages_any W2 D cd qs (HQ.out.below HB2.out).rd)
    cases hisq : isP qs with
    | false =>
      rw [hisq] at HI2
      clear hisq
      go_wp2_with fail
      refine HI2.out.mono ?_
      rintro e W3 ⟨rfl, hb3⟩
      have HB3 := Lib.hid (bvia HB2.out hb3 (Nat.le_refl _))
      clear hb3
      go_wp2_with fail
      go_ret
      exact ⟨rfl, HB3.out⟩
    | true =>
      rw [hisq] at HI2
      have HISQ := Lib.hid hisq
      clear hisq
      have HOP := Lib.hid (psOk_of HISP.out HP.out.u8 (by omega))
      have HOQ := Lib.hid (psOk_of HISQ.out HQ.out.u8 (by omega))
      go_wp2_with fail
      refine HI2.out.mono ?_
      rintro e W3 ⟨rfl, hb3⟩
      have HB3 := Lib.hid (bvia HB2.out hb3 (Nat.le_refl _))
      clear hb3
      have HP3 := Lib.hid (HP.out.below HB3.out)
      go_wp2_with fail
      refine (Load_any W3 A c ps HP3.out.rd HP3.out.by_ HOP.out).mono ?_
      rintro e W4 ⟨mb, rfl, hld⟩
      obtain ⟨m4, hb4⟩ := hld.m1
      have HM4 := Lib.hid m4
      have HB4 := Lib.hid (bvia HB3.out hb4 (Nat.le_refl _))
      have HQ4 := Lib.hid (HQ.out.below HB4.out)
      clear hld m4 hb4
      go_wp2_with fail
      refine (Load_any W4 D cd qs HQ4.out.rd HQ4.out.by_ HOQ.out).mono ?_
      rintro e W5 ⟨kb, rfl, hld⟩
      obtain ⟨k5, hb5⟩ := hld.m1
      have HM5 := Lib.hid (HM4.out.below hb5)
      have HK5 := Lib.hid k5
      have HB5 := Lib.hid (bvia HB4.out hb5 (Nat.le_refl _))
      have HP5 := Lib.hid (HP.out.below HB5.out)
      clear hld k5 hb5
      go_wp2_with fail
      refine (RLoad_ok W5 A c ps HP5.out.rd HP5.out.by_ HISP.out HOP.out).mono ?_
      rintro e W6 ⟨rb, p6, rfl, r6, see6, hb6⟩
      have HM6 := Lib.hid (HM5.out.below hb6)
      have HK6 := Lib.hid (HK5.out.below hb6)
      have HR6 := Lib.hid r6
      have HS6 := Lib.hid see6
      have HB6 := Lib.hid (bvia HB5.out hb6 (Nat.le_refl _))
      have HQ6 := Lib.hid (HQ.out.below HB6.out)
      clear r6 see6 hb6
      go_wp2_with fail
      refine (RLoad_ok W6 D cd qs HQ6.out.rd HQ6.out.by_ HISQ.out HOQ.out).mono ?_
      rintro e W7 ⟨sb, q7, rfl, s7, see7, hb7⟩
      have HM7 := Lib.hid (HM6.out.below hb7)
      have HK7 := Lib.hid (HK6.out.below hb7)
      have HR7 := Lib.hid (HR6.out.below hb7)
      have HT7 := Lib.hid s7
      have HS7 := Lib.hid see7
      have HB7 := Lib.hid (bvia HB6.out hb7 (Nat.le_refl _))
      have hpl : p6.length ≤ 400 := by have := congrArg List.length HS6.out; simp at this; omega
      have hql : q7.length ≤ 400 := by have := congrArg List.length see7; simp at this; omega
      clear s7 see7 hb7
      obtain ⟨DL, hDL⟩ : ∃ DL, diffL (ldM ps) (ldM qs) = DL := ⟨_, rfl⟩
      have HDL := Lib.hid hDL
      clear hDL
      go_wp2_with fail
      refine (Diff_M HM7.out HK7.out).mono ?_
      rintro e W8 ⟨⟨A8, c8, rfl, rd8, new8⟩, hb8⟩
      rw [HDL.out] at rd8
      rw [HDL.out]
      have HM8 := Lib.hid (HM7.out.below hb8)
      have HK8 := Lib.hid (HK7.out.below hb8)
      have HR8 := Lib.hid (HR7.out.below hb8)
      have HT8 := Lib.hid (HT7.out.below hb8)
      have HB8 := Lib.hid (bvia HB7.out hb8 (Nat.le_refl _))
      have RD8 := Lib.hid rd8
      have HRX := Lib.hid (RDiff_ok W8 rb sb (ldM ps) (ldM qs) p6 q7 HR8.out HT8.out (HS6.out.trans (save_load ps HOP.out).symm) (HS7.out.trans (save_load qs HOQ.out).symm) hpl hql)
      rw [HDL.out] at HRX
      have hdl := rd8.le
      clear rd8 new8 hb8
      go_wp2_with fail
      refine HRX.out.mono ?_
      rintro e W9 ⟨⟨A9, c9, rfl, rd9, new9⟩, hb9⟩
      have HM9 := Lib.hid (HM8.out.below hb9)
      have HK9 := Lib.hid (HK8.out.below hb9)
      have HR9 := Lib.hid (HR8.out.below hb9)
      have HT9 := Lib.hid (HT8.out.below hb9)
      have HB9 := Lib.hid (bvia HB8.out hb9 (Nat.le_refl _))
      have HEQ := Lib.hid (Equal_spans W9 A8 A9 DL DL c8 c9 (RD8.out.below hb9) rd9)
      rw [show decide (DL = DL) = true from decide_eq_true rfl] at HEQ
      clear rd9 new9 hb9 HRX
      go_wp2_with fail
      refine HEQ.out.mono ?_
      rintro e W10 ⟨rfl, hb10⟩
      have HM10 := Lib.hid (HM9.out.below hb10)
      have HK10 := Lib.hid (HK9.out.below hb10)
      have HR10 := Lib.hid (HR9.out.below hb10)
      have HT10 := Lib.hid (HT9.out.below hb10)
      have HB10 := Lib.hid (bvia HB9.out hb10 (Nat.le_refl _))
      clear hb10 HEQ
      have HBO : Hid (sameM (ldM ps) (ldM qs) = decide (p6.map PV.see = q7.map PV.see)) := Lib.hid (by rw [sameM_see, save_load ps HOP.out, save_load qs HOQ.out, HS6.out, HS7.out])
      obtain ⟨bo, hbo⟩ : ∃ bo, decide (p6.map PV.see = q7.map PV.see) = bo := ⟨_, rfl⟩
      have HRS := Lib.hid hbo
      rw [hbo] at HBO
      clear hbo
      go_wp2_with fail
      refine (Same_M HM10.out HK10.out).mono ?_
      rintro e W11 ⟨rfl, hb11⟩
      rw [HBO.out]
      have HR11 := Lib.hid (HR10.out.below hb11)
      have HT11 := Lib.hid (HT10.out.below hb11)
      have HB11 := Lib.hid (bvia HB10.out hb11 (Nat.le_refl _))
      clear hb11
      have HRM := Lib.hid (RSame_ok W11 rb sb p6 q7 HR11.out HT11.out)
      rw [HRS.out] at HRM
      go_wp2_with fail
      refine HRM.out.mono ?_
      rintro e W12 ⟨rfl, hb12⟩
      have HB12 := Lib.hid (bvia HB11.out hb12 (Nat.le_refl _))
      clear hb12 HRM
      cases bo
      all_goals
        go_wp2_with fail
        go_ret
        exact ⟨rfl, HB12.out⟩
end Go.Proofs.Ytidojcogojchpaa
