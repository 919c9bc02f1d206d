/- mem's laws: MemWhole. -/
import Derived.Test.YtidojcogojchpaaM04
import Derived.Laws.StructEq
import Derived.Stop.BytesEq
import Derived.LaidEqlPtr
import Derived.Lib.AppendZerosOnto
set_option linter.unusedVariables false
set_option linter.unusedSimpArgs false
namespace Go.Proofs.Ytidojcogojchpaa
open Go.RowKit Go.Shelf

/-- What was poked is read. -/
theorem bytesN_poke (A : PM) (at_ : Int) (bs : List Int) (h0 : 0 ≤ at_ ∧ at_ < 4294967296) (hl : bs.length ≤ 65536) : bytesN (A.poke at_ bs bs.length) at_ bs.length = bs := by
  refine list_gi (bytesN_len _ _ _) fun j hj => ?_
  rw [bytesN_len] at hj
  have hm0 := Int.emod_nonneg (pcAt at_ (j : Int)) (show (256 : Int) ≠ 0 by omega)
  have hm1 := Int.emod_lt_of_pos (pcAt at_ (j : Int)) (show (0 : Int) < 256 by omega)
  have e1 : gi (bytesN (A.poke at_ bs bs.length) at_ bs.length) j = byteAt (A.poke at_ bs bs.length) (pcAt at_ (j : Int)) := by
    rw [gi_get _ _ (by rw [bytesN_len]; exact hj)]
    simp [bytesN]
  rw [e1]
  unfold byteAt
  show gi (pokeB A at_ bs bs.length (pcAt at_ (j : Int) / 256)) _ = _
  rw [pokeB_gi _ _ _ _ _ _ (by omega)]
  have e2 : (pcAt at_ (j : Int) / 256 * 256 + ((pcAt at_ (j : Int) % 256).toNat : Int) - at_) % 4294967296 = (j : Int) := by
    rw [Int.toNat_of_nonneg hm0]
    unfold pcAt
    omega
  rw [e2, if_pos (by omega)]
  simp
theorem wr_true {A : PM} {need at_ : Int} {n : Nat} (h : wrB A need at_ n = true) : allOk A need at_ n ∧ n ≤ 65536 := by
  unfold wrB at h
  split at h
  · cases h
  · exact ⟨firstBad_all (by simpa using h), by omega⟩
theorem bits_zero (x : Int) (h : 0 ≤ x ∧ x ≤ 7) : bits .and .i64 x 0 = 0 := by
  have : x = 0 ∨ x = 1 ∨ x = 2 ∨ x = 3 ∨ x = 4 ∨ x = 5 ∨ x = 6 ∨ x = 7 := by omega
  rcases this with rfl | rfl | rfl | rfl | rfl | rfl | rfl | rfl <;> rfl
theorem peek_poked {A : PM} {at_ need : Int} {bs : List Int} (h0 : 0 ≤ at_ ∧ at_ < 4294967296) (hr : ∀ n ∈ A.ks, 0 ≤ (A.pg n).r ∧ (A.pg n).r ≤ 7) (h : wrB A need at_ bs.length = true) :
    rdB (wrM A need at_ bs) 0 at_ bs.length = true ∧ rdL (wrM A need at_ bs) 0 at_ bs.length = bs := by
  obtain ⟨hok, hl⟩ := wr_true h
  have e : wrM A need at_ bs = A.poke at_ bs bs.length := by unfold wrM; exact if_pos h
  have hok' : allOk (A.poke at_ bs bs.length) 0 at_ bs.length := fun i i0 i1 => ⟨(hok i i0 i1).1, bits_zero _ (hr _ (hok i i0 i1).1)⟩
  obtain ⟨r1, r2, r3⟩ := rd_ok (A := A.poke at_ bs bs.length) (need := 0) (at_ := at_) (n := bs.length) (by omega) (by omega) hok'
  rw [e]
  refine ⟨r2, r3.trans ?_⟩
  rw [Int.toNat_natCast]
  exact bytesN_poke A at_ bs h0 hl
theorem M1.rights {B : Nat} {W : World} {b : Nat} {A : PM} (h : M1 B W b A) : ∀ n ∈ A.ks, 0 ≤ (A.pg n).r ∧ (A.pg n).r ≤ 7 := by
  obtain ⟨S, h1, _⟩ := h.ex
  exact fun n hn => (h1.mem.page n hn).2.r
theorem M1.right {B : Nat} {W : World} {b : Nat} {A : PM} (h : M1 B W b A) (at_ need : Int) (n : Nat) (ha : 0 ≤ at_ ∧ at_ < 4294967296) (hn : n ≤ 65536) (hnd : 0 ≤ need ∧ need ≤ 7) :
    Calls Try.prog 22 #[.pointer (some ⟨b, 0, none⟩), .int .u32 at_, .int .i64 n, .int .i64 need] W fun e w' => e = .returned (.tuple #[.int .u32 (wrA A need at_ n), .bool (wrB A need at_ n)]) ∧ Below W.heap.size W w' := by
  obtain ⟨S, h1, _⟩ := h.ex
  exact right_any W b S A at_ need n h1.mem ha hn hnd
theorem BytesAt.zero {W : World} {B : Nat} {ps : List PV} (h : BytesAt W B ps) : BytesAt W 0 ps := fun p hp => ⟨(h p hp).1, (h p hp).2.1, fun _ _ => Nat.zero_le _⟩
theorem sameP_of {ps qs : List PV} (h : ps.map PV.see = qs.map PV.see) : sameP ps qs = true := decide_eq_true h

set_option maxRecDepth 1000000 in
set_option maxHeartbeats 8000000 in
theorem whole_any (A : Option Addr) (c : Nat) (ps : List PV) (at_ : Int) (D : Option Addr) (cd : Nat) (bs : List Int) (w : World) (hp : PsIn w A c ps) (ha : 0 ≤ at_ ∧ at_ < 4294967296) (hb : BsIn w D cd bs) :
    Calls Try.prog 4 #[.slice A ps.length c, .int .u32 at_, .slice D bs.length cd] w fun e w' => e = .returned (.bool true) ∧ Below w.heap.size w w' := by
  have HP := Lib.hid hp
  have HBS := Lib.hid hb
  have hlen := hp.rd.le
  have hlb := hb.le
  have hcb := hb.cap
  clear hp hb
  go_enter Try.func4, Try.ntmps4
  go_wp2_with fail
  refine (sane_any w).mono ?_
  rintro e W1 ⟨rfl, hb1⟩
  have HB1 := Lib.hid hb1
  have HP1 := Lib.hid (HP.out.below hb1)
  clear hb1
  go_wp2_with fail
  refine (loaded_any W1 A c ps HP1.out.rd HP1.out.by_ HP1.out.u8).mono ?_
  rintro e W2 ⟨hb2, hres⟩
  have HB2 := Lib.hid (bvia HB1.out hb2 (Nat.le_refl _))
  have HP2 := Lib.hid (HP1.out.below hb2)
  have HI := Lib.hid (IsPages_any W2 A c ps (HP1.out.below hb2).rd)
  clear hb2
  rcases hres with ⟨⟨hl20, hisp⟩, mb, rfl, hld⟩ | ⟨hnot, rfl⟩
  · rw [hisp] at HI
    have hc20 : ¬ (ps.length : Int) > 20 := by omega
    have HPO := Lib.hid (psOk_of hisp HP1.out.u8 (by omega))
    have HM := Lib.hid hld.m1.1
    clear hisp hld
    by_cases hbl : bs.length ≤ 2000
    · have hcb2 : ¬ (bs.length : Int) > 2000 := by omega
      go_wp2_with fail
      refine (HM.out.right at_ 2 bs.length ha (by omega) (by omega)).mono ?_
      rintro e W3 ⟨rfl, hb3⟩
      have HM3 := Lib.hid (HM.out.below hb3)
      have HB3 := Lib.hid (bvia HB2.out hb3 (Nat.le_refl _))
      have hs3 : w.heap.size ≤ W1.heap.size := HB1.out.size
      clear hb3
      go_wp2_with fail
      refine (HM3.out.Write0 at_ bs D cd ha hcb ((HBS.out.below HB3.out).rd) HBS.out.u8 fun h0 ad e => by have := HBS.out.rd.old (by omega) ad e; omega).mono ?_
      rintro e W4 ⟨rfl, m4, hb4⟩
      have HM4 := Lib.hid m4
      have HB4 := Lib.hid (HB3.out.trans (hb4.mono hs3))
      obtain ⟨wa, hwa⟩ : ∃ x, wrA (ldM ps) 2 at_ bs.length = x := ⟨_, rfl⟩
      rw [hwa]
      cases hwb : wrB (ldM ps) 2 at_ bs.length with
      | false =>
        have HWM : Hid (wrM (ldM ps) 2 at_ bs = ldM ps) := Lib.hid (by unfold wrM; rw [hwb]; rfl)
        clear m4 hb4 hwa hwb
        go_wp2_with fail
        refine (HM4.out.Save).mono ?_
        rintro e W5 ⟨⟨A5, c5, qs, rfl, rd5, new5, see5, by5, u5⟩, hb5⟩
        rw [HWM.out, save_load ps HPO.out] at see5
        have HB5 := Lib.hid (bvia HB4.out hb5 (Nat.le_refl _))
        have HSP := Lib.hid (SamePages_any W5 A5 A c5 c qs ps rd5 ((HP.out.below HB5.out).rd) by5.zero (HP.out.below HB5.out).by_ u5 HP.out.u8)
        rw [sameP_of see5] at HSP
        clear rd5 new5 see5 by5 u5 hb5
        go_wp2_with fail
        refine HSP.out.mono ?_
        rintro e W6 ⟨rfl, hb6⟩
        have HB6 := Lib.hid (bvia HB5.out hb6 (Nat.le_refl _))
        clear hb6
        go_wp2_with fail
        go_ret
        exact ⟨rfl, HB6.out⟩
      | true =>
        have HPK := Lib.hid (peek_poked ha HM.out.rights hwb)
        clear m4 hb4 hwa hwb
        go_wp2_with fail
        refine (HM4.out.Peek at_ bs.length ha).mono ?_
        rintro e W5 ⟨⟨A5, c5, rfl, rd5, hc5, new5⟩, hb5, u5⟩
        have HB5 := Lib.hid (bvia HB4.out hb5 (Nat.le_refl _))
        rw [HPK.out.1, HPK.out.2]
        rw [HPK.out.2] at rd5
        have R5 := Lib.hid rd5
        clear rd5 hc5 new5 u5 hb5
        obtain ⟨ra, hra⟩ : ∃ x, rdA (wrM (ldM ps) 2 at_ bs) 0 at_ bs.length = x := ⟨_, rfl⟩
        rw [hra]
        clear hra
        go_wp2_with fail
        refine (Equal_bytes W5 A5 D bs bs c5 cd R5.out ((HBS.out.below HB5.out).rd) HBS.out.u8 HBS.out.u8).mono ?_
        rintro e W6 ⟨rfl, rfl⟩
        rw [show decide (bs = bs) = true from decide_eq_true rfl]
        go_wp2_with fail
        go_ret
        exact ⟨rfl, HB5.out⟩
    · have hcb2 : (bs.length : Int) > 2000 := by omega
      go_wp2_with fail
      refine HI.out.mono ?_
      rintro e W3 ⟨rfl, hb3⟩
      have HB3 := Lib.hid (bvia HB2.out hb3 (Nat.le_refl _))
      clear hb3
      go_wp2_with fail
      go_ret
      exact ⟨rfl, HB3.out⟩
  · cases hisp : isP ps with
    | false =>
      rw [hisp] at HI
      clear hisp hnot
      go_wp2_with fail
      refine HI.out.mono ?_
      rintro e W3 ⟨rfl, hb3⟩
      have HB3 := Lib.hid (bvia HB2.out hb3 (Nat.le_refl _))
      clear hb3
      go_wp2_with fail
      go_ret
      exact ⟨rfl, HB3.out⟩
    | true =>
      have hc20 : (ps.length : Int) > 20 := by
        rcases Nat.lt_or_ge 20 ps.length with h | h
        · omega
        · exact absurd ⟨h, hisp⟩ hnot
      rw [hisp] at HI
      clear hisp hnot
      go_wp2_with fail
      refine HI.out.mono ?_
      rintro e W3 ⟨rfl, hb3⟩
      have HB3 := Lib.hid (bvia HB2.out hb3 (Nat.le_refl _))
      clear hb3
      go_wp2_with fail
      go_ret
      exact ⟨rfl, HB3.out⟩
end Go.Proofs.Ytidojcogojchpaa

/- mem's laws: few. -/
set_option linter.unusedVariables false
set_option linter.unusedSimpArgs false
namespace Go.Proofs.Ytidojcogojchpaa
open Go.RowKit Go.Shelf

def fwA (n : Int) (x : CV) : Int := wrap64 (n + x.bs.length)
def fwB (n : Int) (x : CV) : Int := if 0 < x.n ∧ x.n ≤ 65536 then wrap64 (fwA n x + x.n) else fwA n x
def fwP (p : Int) (x : CV) : Int := if x.kind = 0 ∧ 0 < x.n ∧ x.n ≤ 2000 then wrap64 (p + x.n) else p
def fwN (xs : List CV) : Int := xs.foldl fwB 0
def fwQ (xs : List CV) : Int := xs.foldl fwP 0
def fewB (xs : List CV) : Bool := decide (xs.length ≤ 60 ∧ fwN xs ≤ 200000 ∧ fwQ xs ≤ 3000)
theorem fwN_snoc (xs : List CV) (k : Nat) (hk : k < xs.length) : fwN (xs.take (k + 1)) = fwB (fwN (xs.take k)) (gx xs k) := by
  rw [List.take_succ_eq_append_getElem hk, fwN, List.foldl_append, gx_get xs k hk]; rfl
theorem fwQ_snoc (xs : List CV) (k : Nat) (hk : k < xs.length) : fwQ (xs.take (k + 1)) = fwP (fwQ (xs.take k)) (gx xs k) := by
  rw [List.take_succ_eq_append_getElem hk, fwQ, List.foldl_append, gx_get xs k hk]; rfl
set_option maxRecDepth 100000 in
set_option maxHeartbeats 4000000 in
theorem few_any (W : World) (A : Option Addr) (c : Nat) (xs : List CV) (h : CsIn W A c xs) :
    Calls Try.prog 32 #[.slice A xs.length c] W fun e w' => e = .returned (.bool (fewB xs)) ∧ Below W.heap.size W w' := by
  have hcp := h.cap
  have hle := h.le
  have H := Lib.hid h
  clear h
  go_enter Try.func32, Try.ntmps32
  go_wp2_with fail
  go_loopw [3, 4, 9] (fun n p i wr => ∃ k : Nat, k ≤ xs.length ∧ i = .int .i64 k ∧ n = .int .i64 (fwN (xs.take k)) ∧ p = .int .i64 (fwQ (xs.take k)) ∧ Hid (Below W.heap.size W wr)) (fun _ _ i _ => xs.length - (intOf i).toNat)
  case atStart => exact ⟨0, Nat.zero_le _, rfl, rfl, rfl, Lib.hid (Below.refl _ _)⟩
  case round =>
    obtain ⟨k, hk, rfl, rfl, rfl, hI⟩ := hrel
    by_cases hlt : k < xs.length
    · obtain ⟨ad, rfl, hx⟩ := (H.out.below hI.out).at k hlt
      obtain ⟨x0, x1, x2, x3, x4, x5⟩ := hx
      have hN := fwN_snoc xs k hlt
      have hQ := fwQ_snoc xs k hlt
      obtain ⟨n0, hn0⟩ : ∃ n0, fwN (xs.take k) = n0 := ⟨_, rfl⟩
      obtain ⟨p0, hp0⟩ : ∃ p0, fwQ (xs.take k) = p0 := ⟨_, rfl⟩
      rw [hn0] at hN ⊢
      rw [hp0] at hQ ⊢
      obtain ⟨X, hX⟩ : ∃ X, gx xs k = X := ⟨_, rfl⟩
      rw [hX] at x0 x1 x2 x3 x4 x5 hN hQ
      obtain ⟨kind, pg, n, rt, a, Ab, cb, bs⟩ := X
      obtain ⟨W5, hW5⟩ : ∃ W5, wr.alloc (.cells #[.int .i64 kind, .int .i64 pg, .int .i64 n, .int .i64 rt, .int .u32 a, .slice Ab bs.length cb] 54) = W5 := ⟨_, rfl⟩
      have h5 : W5.heap[wr.heap.size]? = some (.cells #[.int .i64 kind, .int .i64 pg, .int .i64 n, .int .i64 rt, .int .u32 a, .slice Ab bs.length cb] 54 (0, 0)) := by rw [← hW5]; exact heap_alloc_new wr _
      have hb5 : Below wr.heap.size wr W5 := by rw [← hW5]; exact balloc wr _
      have y0 : W5.cell? ⟨wr.heap.size, 0, none⟩ = some (.int .i64 kind) := by simp [World.cell?, h5]
      have y2 : W5.cell? ⟨wr.heap.size, 2, none⟩ = some (.int .i64 n) := by simp [World.cell?, h5]
      have y5 : W5.cell? ⟨wr.heap.size, 5, none⟩ = some (.slice Ab bs.length cb) := by simp [World.cell?, h5]
      have HB5 := Lib.hid (hI.out.trans (hb5.mono hI.out.size))
      have HN := Lib.hid hN
      have HQ := Lib.hid hQ
      clear h5 hb5 hN hQ hn0 hp0 hX
      go_wp2_with fail
      all_goals
        refine ⟨⟨k + 1, by omega, by go_num, ?_, ?_, HB5⟩, by simp [intOf]; omega⟩
        · rw [HN.out]
          simp only [fwB, fwA]
          first
            | (rw [if_pos (c := 0 < n ∧ n ≤ 65536) (by omega)])
            | (rw [if_neg (c := 0 < n ∧ n ≤ 65536) (by omega)])
        · rw [HQ.out]
          simp only [fwP]
          first
            | (rw [if_pos (c := kind = 0 ∧ 0 < n ∧ n ≤ 2000) (by omega)])
            | (rw [if_neg (c := kind = 0 ∧ 0 < n ∧ n ≤ 2000) (by omega)])
    · obtain rfl : k = xs.length := by omega
      rw [List.take_length]
      obtain ⟨n0, hn0⟩ : ∃ n0, fwN xs = n0 := ⟨_, rfl⟩
      obtain ⟨p0, hp0⟩ : ∃ p0, fwQ xs = p0 := ⟨_, rfl⟩
      rw [hn0, hp0]
      have HF : Hid (fewB xs = decide (xs.length ≤ 60 ∧ n0 ≤ 200000 ∧ p0 ≤ 3000)) := Lib.hid (by unfold fewB; rw [hn0, hp0])
      clear hn0 hp0
      go_wp2_with fail
      all_goals
        go_ret
        rw [HF.out]
        refine ⟨?_, hI.out⟩
        first
          | exact congrArg (fun x => Ending.returned (Value.bool x)) (show decide (p0 ≤ 3000) = decide (xs.length ≤ 60 ∧ n0 ≤ 200000 ∧ p0 ≤ 3000) from decide_eq_decide.2 (by omega))
          | exact congrArg (fun x => Ending.returned (Value.bool x)) (show false = decide (xs.length ≤ 60 ∧ n0 ≤ 200000 ∧ p0 ≤ 3000) from (decide_eq_false (by omega)).symm)
end Go.Proofs.Ytidojcogojchpaa

/- mem's laws: MemClones. -/
set_option linter.unusedVariables false
set_option linter.unusedSimpArgs false
namespace Go.Proofs.Ytidojcogojchpaa
open Go.RowKit Go.Shelf

theorem ldM_cg (ps : List PV) : (ldM ps).cg = [] := by
  unfold ldM
  suffices h : ∀ (L : List PV) (A : PM), (L.foldl (fun A p => A.put p.n ⟨p.r, p.bs⟩) A).cg = A.cg from h ps PM.new
  intro L
  induction L with
  | nil => intro A; rfl
  | cons p L ih => intro A; rw [List.foldl_cons, ih]; rfl
/-- What the loop carries. -/
def ClI (w : World) (B b : Nat) (A : PM) (v : Value) (V : World) : Prop := ∃ c C, v = .pointer (some ⟨c, 0, none⟩) ∧ M2 B V b A c C ∧ Below w.heap.size w V
set_option maxRecDepth 1000000 in
set_option maxHeartbeats 8000000 in
theorem clones_any (A : Option Addr) (c : Nat) (ps : List PV) (D : Option Addr) (cd : Nat) (xs : List CV) (w : World) (hp : PsIn w A c ps) (hx : CsIn w D cd xs) :
    Calls Try.prog 7 #[.slice A ps.length c, .slice D xs.length cd] w fun e w' => e = .returned (.bool true) ∧ Below w.heap.size w w' := by
  have HP := Lib.hid hp
  have HX := Lib.hid hx
  have hlen := hp.rd.le
  have hcx := hx.cap
  have hlx := hx.le
  clear hp hx
  go_enter Try.func7, Try.ntmps7
  go_wp2_with fail
  refine (sane_any w).mono ?_
  rintro e W1 ⟨rfl, hb1⟩
  have HB1 := Lib.hid hb1
  have HP1 := Lib.hid (HP.out.below hb1)
  clear hb1
  go_wp2_with fail
  refine (loaded_any W1 A c ps HP1.out.rd HP1.out.by_ HP1.out.u8).mono ?_
  rintro e W2 ⟨hb2, hres⟩
  have HB2 := Lib.hid (bvia HB1.out hb2 (Nat.le_refl _))
  clear hb2
  rcases hres with ⟨⟨hl20, hisp⟩, mb, rfl, hld⟩ | ⟨hnot, rfl⟩
  · have hc20 : ¬ (ps.length : Int) > 20 := by omega
    have HPO := Lib.hid (psOk_of hisp HP1.out.u8 (by omega))
    have HM := Lib.hid hld.m1.1
    have HISP := Lib.hid hisp
    clear hisp hld
    have HFW := Lib.hid (few_any W2 D cd xs (HX.out.below HB2.out))
    cases hfw : fewB xs with
    | false =>
      rw [hfw] at HFW
      go_wp2_with fail
      refine HFW.out.mono ?_
      rintro e W3 ⟨rfl, hb3⟩
      have HB3 := Lib.hid (bvia HB2.out hb3 (Nat.le_refl _))
      clear hb3
      have HI := Lib.hid (IsPages_any W3 A c ps (HP.out.below HB3.out).rd)
      rw [HISP.out] at HI
      go_wp2_with fail
      refine HI.out.mono ?_
      rintro e W4 ⟨rfl, hb4⟩
      have HB4 := Lib.hid (bvia HB3.out hb4 (Nat.le_refl _))
      clear hb4
      have HFW4 := Lib.hid (few_any W4 D cd xs (HX.out.below HB4.out))
      rw [hfw] at HFW4
      clear hfw HFW
      go_wp2_with fail
      refine HFW4.out.mono ?_
      rintro e W5 ⟨rfl, hb5⟩
      have HB5 := Lib.hid (bvia HB4.out hb5 (Nat.le_refl _))
      clear hb5
      go_wp2_with fail
      go_ret
      exact ⟨rfl, HB5.out⟩
    | true =>
      rw [hfw] at HFW
      clear hfw
      go_wp2_with fail
      refine HFW.out.mono ?_
      rintro e W3 ⟨rfl, hb3⟩
      have HM3 := Lib.hid (HM.out.below hb3)
      have HB3 := Lib.hid (bvia HB2.out hb3 (Nat.le_refl _))
      have hs3 : w.heap.size ≤ W1.heap.size := HB1.out.size
      clear hb3 HFW
      go_wp2_with fail
      refine HM3.out.Clone.mono ?_
      rintro e W4 ⟨k0, rfl, m4, hb4⟩
      have HI4 : Hid (ClI w W1.heap.size mb (ldM ps) (.pointer (some ⟨k0, 0, none⟩)) W4) := Lib.hid ⟨k0, _, rfl, m4, HB3.out.trans (hb4.mono hs3)⟩
      clear m4 hb4
      go_wp2_with fail
      go_loopw [7, 41] (fun v i wr => ∃ k : Nat, k ≤ xs.length ∧ i = .int .i64 k ∧ Hid (ClI w W1.heap.size mb (ldM ps) v wr)) (fun _ i _ => xs.length - (intOf i).toNat)
      case atStart => exact ⟨0, Nat.zero_le _, rfl, HI4⟩
      case round =>
        obtain ⟨k, hk, rfl, hI⟩ := hrel
        obtain ⟨kc, C, rfl, m5, hb5⟩ := hI.out
        by_cases hlt : k < xs.length
        · have hXk := HX.out.ok _ (gx_mem xs k hlt)
          obtain ⟨ad, rfl, x0, x1, x2, x3, x4, x5⟩ := (HX.out.below hb5).at k hlt
          obtain ⟨X, hX⟩ : ∃ X, gx xs k = X := ⟨_, rfl⟩
          rw [hX] at x0 x1 x2 x3 x4 x5 hXk
          obtain ⟨kind, pg, n, rt, a, Ab, cb, bs⟩ := X
          obtain ⟨W5, hW5⟩ : ∃ W5, wr.alloc (.cells #[.int .i64 kind, .int .i64 pg, .int .i64 n, .int .i64 rt, .int .u32 a, .slice Ab bs.length cb] 54) = W5 := ⟨_, rfl⟩
          have h5 : W5.heap[wr.heap.size]? = some (.cells #[.int .i64 kind, .int .i64 pg, .int .i64 n, .int .i64 rt, .int .u32 a, .slice Ab bs.length cb] 54 (0, 0)) := by rw [← hW5]; exact heap_alloc_new wr _
          have hbw : Below wr.heap.size wr W5 := by rw [← hW5]; exact balloc wr _
          have y0 : W5.cell? ⟨wr.heap.size, 0, none⟩ = some (.int .i64 kind) := by simp [World.cell?, h5]
          have y1 : W5.cell? ⟨wr.heap.size, 1, none⟩ = some (.int .i64 pg) := by simp [World.cell?, h5]
          have y2 : W5.cell? ⟨wr.heap.size, 2, none⟩ = some (.int .i64 n) := by simp [World.cell?, h5]
          have y3 : W5.cell? ⟨wr.heap.size, 3, none⟩ = some (.int .i64 rt) := by simp [World.cell?, h5]
          have y4 : W5.cell? ⟨wr.heap.size, 4, none⟩ = some (.int .u32 a) := by simp [World.cell?, h5]
          have y5 : W5.cell? ⟨wr.heap.size, 5, none⟩ = some (.slice Ab bs.length cb) := by simp [World.cell?, h5]
          have HM5 := Lib.hid (m5.below hbw)
          have HB5 := Lib.hid (bvia hb5 hbw (Nat.le_refl _))
          have HOK := Lib.hid hXk
          clear h5 hbw hX hXk m5 hb5 hI
          by_cases k0 : kind = 0
          · subst k0
            go_wp2_with fail
            refine (HM5.out.Map pg n rt).mono ?_
            rintro e W6 ⟨rfl, m6, hb6⟩
            have HI6 : Hid (ClI w W1.heap.size mb (ldM ps) (.pointer (some ⟨kc, 0, none⟩)) W6) := Lib.hid ⟨kc, _, rfl, m6, HB5.out.trans (hb6.mono hs3)⟩
            obtain ⟨z1, hz1⟩ : ∃ z, mapR C pg n rt = z := ⟨_, rfl⟩
            rw [hz1]
            clear hz1
            clear m6 hb6
            go_wp2_with fail
            go_roundw
            case rel => exact ⟨k + 1, by omega, by go_num, HI6⟩
            case measure => simp [intOf]; omega
          by_cases k1 : kind = 1
          · subst k1
            go_wp2_with fail
            refine (HM5.out.Unmap pg n).mono ?_
            rintro e W6 ⟨rfl, m6, hb6⟩
            have HI6 : Hid (ClI w W1.heap.size mb (ldM ps) (.pointer (some ⟨kc, 0, none⟩)) W6) := Lib.hid ⟨kc, _, rfl, m6, HB5.out.trans (hb6.mono hs3)⟩
            obtain ⟨z1, hz1⟩ : ∃ z, unmR C pg n = z := ⟨_, rfl⟩
            rw [hz1]
            clear hz1
            clear m6 hb6
            go_wp2_with fail
            go_roundw
            case rel => exact ⟨k + 1, by omega, by go_num, HI6⟩
            case measure => simp [intOf]; omega
          by_cases k2 : kind = 2
          · subst k2
            go_wp2_with fail
            refine (HM5.out.Protect pg n rt).mono ?_
            rintro e W6 ⟨rfl, m6, hb6⟩
            have HI6 : Hid (ClI w W1.heap.size mb (ldM ps) (.pointer (some ⟨kc, 0, none⟩)) W6) := Lib.hid ⟨kc, _, rfl, m6, HB5.out.trans (hb6.mono hs3)⟩
            obtain ⟨z1, hz1⟩ : ∃ z, proR C pg n rt = z := ⟨_, rfl⟩
            rw [hz1]
            clear hz1
            clear m6 hb6
            go_wp2_with fail
            go_roundw
            case rel => exact ⟨k + 1, by omega, by go_num, HI6⟩
            case measure => simp [intOf]; omega
          by_cases k7 : kind = 7
          · subst k7
            go_wp2_with fail
            refine (HM5.out.Write0 a bs Ab cb HOK.out.at_ HOK.out.bs.cap ((HOK.out.bs.below HB5.out).rd) HOK.out.bs.u8 fun h0 ad e => by have := HOK.out.bs.rd.old (by rw [Nat.mul_one]; exact h0) ad e; omega).mono ?_
            rintro e W6 ⟨rfl, m6, hb6⟩
            have HI6 : Hid (ClI w W1.heap.size mb (ldM ps) (.pointer (some ⟨kc, 0, none⟩)) W6) := Lib.hid ⟨kc, _, rfl, m6, HB5.out.trans (hb6.mono hs3)⟩
            obtain ⟨z1, hz1⟩ : ∃ z, wrA C 2 a bs.length = z := ⟨_, rfl⟩
            obtain ⟨z2, hz2⟩ : ∃ z, wrB C 2 a bs.length = z := ⟨_, rfl⟩
            rw [hz1, hz2]
            clear hz1 hz2
            clear m6 hb6
            go_wp2_with fail
            go_roundw
            case rel => exact ⟨k + 1, by omega, by go_num, HI6⟩
            case measure => simp [intOf]; omega
          by_cases k8 : kind = 8
          · subst k8
            go_wp2_with fail
            refine (HM5.out.Poke0 a bs Ab cb HOK.out.at_ HOK.out.bs.cap ((HOK.out.bs.below HB5.out).rd) HOK.out.bs.u8 fun h0 ad e => by have := HOK.out.bs.rd.old (by rw [Nat.mul_one]; exact h0) ad e; omega).mono ?_
            rintro e W6 ⟨rfl, m6, hb6⟩
            have HI6 : Hid (ClI w W1.heap.size mb (ldM ps) (.pointer (some ⟨kc, 0, none⟩)) W6) := Lib.hid ⟨kc, _, rfl, m6, HB5.out.trans (hb6.mono hs3)⟩
            obtain ⟨z1, hz1⟩ : ∃ z, wrA C 0 a bs.length = z := ⟨_, rfl⟩
            obtain ⟨z2, hz2⟩ : ∃ z, wrB C 0 a bs.length = z := ⟨_, rfl⟩
            rw [hz1, hz2]
            clear hz1 hz2
            clear m6 hb6
            go_wp2_with fail
            go_roundw
            case rel => exact ⟨k + 1, by omega, by go_num, HI6⟩
            case measure => simp [intOf]; omega
          by_cases k11 : kind = 11
          · subst k11
            go_wp2_with fail
            refine HM5.out.Clone.mono ?_
            rintro e W6 ⟨kd, rfl, m6, hb6⟩
            have HI6 : Hid (ClI w W1.heap.size mb (ldM ps) (.pointer (some ⟨kd, 0, none⟩)) W6) := Lib.hid ⟨kd, _, rfl, m6, HB5.out.trans (hb6.mono hs3)⟩
            clear m6 hb6
            go_wp2_with fail
            go_roundw
            case rel => exact ⟨k + 1, by omega, by go_num, HI6⟩
            case measure => simp [intOf]; omega
          have HI6 : Hid (ClI w W1.heap.size mb (ldM ps) (.pointer (some ⟨kc, 0, none⟩)) W5) := Lib.hid ⟨kc, _, rfl, HM5.out, HB5.out⟩
          have d0 : (kind == 0) = false := by simpa using k0
          have d1 : (kind == 1) = false := by simpa using k1
          have d2 : (kind == 2) = false := by simpa using k2
          have d7 : (kind == 7) = false := by simpa using k7
          have d8 : (kind == 8) = false := by simpa using k8
          have d11 : (kind == 11) = false := by simpa using k11
          go_wp2_with fail
          go_roundw
          case rel => exact ⟨k + 1, by omega, by go_num, HI6⟩
          case measure => simp [intOf]; omega
        · obtain rfl : k = xs.length := by omega
          have HM5 := Lib.hid m5
          have HB5 := Lib.hid hb5
          clear m5 hb5 hI hlt hk
          go_wp2_with fail
          refine HM5.out.fst.Save.mono ?_
          rintro e W6 ⟨⟨A6, c6, qs, rfl, rd6, new6, see6, by6, u6⟩, hb6⟩
          rw [save_load ps HPO.out] at see6
          have HM6 := Lib.hid (HM5.out.fst.below hb6)
          have HB6 := Lib.hid (bvia HB5.out hb6 (Nat.le_refl _))
          have HSP := Lib.hid (SamePages_any W6 A6 A c6 c qs ps rd6 ((HP.out.below HB6.out).rd) by6.zero (HP.out.below HB6.out).by_ u6 HP.out.u8)
          rw [sameP_of see6] at HSP
          clear rd6 new6 see6 by6 u6 hb6
          go_wp2_with fail
          refine HSP.out.mono ?_
          rintro e W7 ⟨rfl, hb7⟩
          have HM7 := Lib.hid (HM6.out.below hb7)
          have HB7 := Lib.hid (bvia HB6.out hb7 (Nat.le_refl _))
          clear hb7
          go_wp2_with fail
          refine HM7.out.Changed.mono ?_
          rintro e W8 ⟨⟨A8, c8, rfl, rd8, hc8, new8⟩, hb8⟩
          have HB8 := Lib.hid (bvia HB7.out hb8 (Nat.le_refl _))
          rw [ldM_cg]
          clear rd8 hc8 new8 hb8
          go_wp2_with fail
          go_ret
          exact ⟨rfl, HB8.out⟩
  · have HI := Lib.hid (IsPages_any W2 A c ps (HP.out.below HB2.out).rd)
    cases hisp : isP ps with
    | false =>
      rw [hisp] at HI
      clear hisp hnot
      go_wp2_with fail
      refine HI.out.mono ?_
      rintro e W3 ⟨rfl, hb3⟩
      have HB3 := Lib.hid (bvia HB2.out hb3 (Nat.le_refl _))
      clear hb3
      go_wp2_with fail
      go_ret
      exact ⟨rfl, HB3.out⟩
    | true =>
      have hc20 : (ps.length : Int) > 20 := by
        rcases Nat.lt_or_ge 20 ps.length with h | h
        · omega
        · exact absurd ⟨h, hisp⟩ hnot
      rw [hisp] at HI
      clear hisp hnot
      go_wp2_with fail
      refine HI.out.mono ?_
      rintro e W3 ⟨rfl, hb3⟩
      have HB3 := Lib.hid (bvia HB2.out hb3 (Nat.le_refl _))
      clear hb3
      go_wp2_with fail
      go_ret
      exact ⟨rfl, HB3.out⟩
end Go.Proofs.Ytidojcogojchpaa

/- mem's laws: MemRights, in plain words. -/
set_option linter.unusedVariables false
set_option linter.unusedSimpArgs false
namespace Go.Proofs.Ytidojcogojchpaa
open Go.RowKit Go.Shelf

theorem belowBox {W W' : World} {b : Nat} {o : Obj} (hb : Below W.heap.size W W') (h : W.heap[b]? = some o) : W'.heap[b]? = some o := (hb.block b (Array.getElem?_eq_some_iff.1 h).1).trans h
theorem inL_one {ks : List Int} (h : Up ks) (p : Int) : inL ks p 1 = if p ∈ ks then [p] else [] := by
  unfold inL
  have e : ∀ k : Int, decide (p ≤ k ∧ k < p + 1) = (k == p) := fun k => by
    by_cases hk : k = p
    · subst hk; simp; omega
    · rw [decide_eq_false (by omega)]; simp [hk]
  simp only [e]
  by_cases hp : p ∈ ks
  · rw [if_pos hp]
    refine up_ext (h.sublist List.filter_sublist) (List.pairwise_singleton _ _) fun x => ?_
    simp only [List.mem_filter, List.mem_singleton, beq_iff_eq]
    exact ⟨fun hx => hx.2, fun hx => by subst hx; exact ⟨hp, rfl⟩⟩
  · rw [if_neg hp]
    refine List.filter_eq_nil_iff.2 fun x hx hc => hp ?_
    rw [← (beq_iff_eq.1 hc)]; exact hx
theorem or_fin : ∀ a b : Fin 8, 0 ≤ bits .or .i64 (a.val : Int) (b.val : Int) ∧ bits .or .i64 (a.val : Int) (b.val : Int) ≤ 7 ∧ ∀ c : Fin 5, bits .and .i64 (a.val : Int) (c.val : Int) = c.val → bits .and .i64 (bits .or .i64 (a.val : Int) (b.val : Int)) (c.val : Int) = c.val := of_decide_eq_true (by kernel_rfl)
theorem or_rights {a b : Int} (ha : 0 ≤ a ∧ a ≤ 7) (hb : 0 ≤ b ∧ b ≤ 7) : (0 ≤ bits .or .i64 a b ∧ bits .or .i64 a b ≤ 7) ∧ ∀ c : Int, 0 ≤ c → c ≤ 4 → bits .and .i64 a c = c → bits .and .i64 (bits .or .i64 a b) c = c := by
  have h := or_fin ⟨a.toNat, by omega⟩ ⟨b.toNat, by omega⟩
  simp only [Int.toNat_of_nonneg ha.1, Int.toNat_of_nonneg hb.1] at h
  refine ⟨⟨h.1, h.2.1⟩, fun c c0 c1 => ?_⟩
  have := h.2.2 ⟨c.toNat, by omega⟩
  simpa only [Int.toNat_of_nonneg c0] using this
/-- The same bytes; rights at least. -/
structure LeR (A K : PM) : Prop where
  ks : K.ks = A.ks
  bs : ∀ n ∈ A.ks, (K.pg n).bs = (A.pg n).bs
  rt : ∀ n ∈ A.ks, ∀ c : Int, 0 ≤ c → c ≤ 4 → bits .and .i64 (A.pg n).r c = c → bits .and .i64 (K.pg n).r c = c
section
variable {A K : PM}
theorem LeR.ok (h : LeR A K) {need a : Int} (hn : 0 ≤ need ∧ need ≤ 4) (ho : okA A need a) : okA K need a := ⟨by rw [h.ks]; exact ho.1, h.rt _ ho.1 need hn.1 hn.2 ho.2⟩
theorem LeR.all (h : LeR A K) {need at_ n : Int} (hn : 0 ≤ need ∧ need ≤ 4) (ho : allOk A need at_ n) : allOk K need at_ n := fun i i0 i1 => h.ok hn (ho i i0 i1)
theorem rd_true {need at_ n : Int} (h : rdB A need at_ n = true) : allOk A need at_ n ∧ 0 ≤ n ∧ n ≤ 65536 := by
  unfold rdB at h
  split at h
  · cases h
  · exact ⟨firstBad_all (by simpa using h), by omega, by omega⟩
theorem LeR.bytes (h : LeR A K) {need at_ : Int} {n : Nat} (ho : allOk A need at_ n) : bytesN K at_ n = bytesN A at_ n := by
  unfold bytesN byteAt
  refine List.map_congr_left fun i hi => ?_
  have hi' : i < n := by simpa using hi
  rw [h.bs _ (ho i (by omega) (by omega)).1]
theorem LeR.rd (h : LeR A K) {need at_ n : Int} (hn : 0 ≤ need ∧ need ≤ 4) (hr : rdB A need at_ n = true) : rdB K need at_ n = true ∧ rdL K need at_ n = rdL A need at_ n := by
  obtain ⟨ho, h0, h1⟩ := rd_true hr
  obtain ⟨m, rfl⟩ : ∃ m : Nat, n = m := ⟨n.toNat, by omega⟩
  obtain ⟨a1, a2, a3⟩ := rd_ok h0 h1 ho
  obtain ⟨b1, b2, b3⟩ := rd_ok h0 h1 (h.all hn ho)
  refine ⟨b2, b3.trans (Eq.trans ?_ a3.symm)⟩
  rw [Int.toNat_natCast]
  exact h.bytes ho
theorem LeR.wr (h : LeR A K) {need at_ : Int} {n : Nat} (hn : 0 ≤ need ∧ need ≤ 4) (hr : wrB A need at_ n = true) : wrB K need at_ n = true := by
  obtain ⟨ho, h1⟩ := wr_true hr
  exact (wr_ok h1 (h.all hn ho)).2
theorem diff_nil (hk : K.ks = A.ks) (hb : ∀ n ∈ A.ks, (K.pg n).bs = (A.pg n).bs) : diffL A K = [] := by
  have hu : ∀ n ∈ uni A.ks K.ks, n ∈ A.ks := fun n hn => by
    rw [uni_mem, hk] at hn
    rcases hn with h | h <;> exact h
  have hp : posA A K (uni A.ks K.ks) = [] := by
    unfold posA
    refine List.flatMap_eq_nil_iff.2 fun n hn => ?_
    have hm := hu n hn
    unfold posP
    rw [List.filter_eq_nil_iff.2 fun j _ => ?_]
    · rfl
    · unfold dif
      rw [decide_eq_true hm, hk, decide_eq_true hm, hb n hm, decide_eq_true rfl]
      simp
  unfold diffL
  rw [hp]; rfl
theorem LeR.diff (h : LeR A K) : diffL A K = [] := diff_nil h.ks h.bs
theorem LeR.wdiff (h : LeR A K) {need at_ : Int} {bs : List Int} (hn : 0 ≤ need ∧ need ≤ 4) (hr : wrB A need at_ bs.length = true) : diffL (wrM A need at_ bs) (wrM K need at_ bs) = [] := by
  have e1 : wrM A need at_ bs = A.poke at_ bs bs.length := if_pos hr
  have e2 : wrM K need at_ bs = K.poke at_ bs bs.length := if_pos (h.wr hn hr)
  rw [e1, e2]
  refine diff_nil h.ks fun n hm => ?_
  have hm' : n ∈ A.ks := hm
  show pokeB K at_ bs bs.length n = pokeB A at_ bs bs.length n
  unfold pokeB
  rw [h.bs n hm']
/-- What Protect of one page with more rights does. -/
theorem pro_more (hu : Up A.ks) (hrng : ∀ n ∈ A.ks, 0 ≤ n ∧ n < 16777216) (hr : ∀ n ∈ A.ks, 0 ≤ (A.pg n).r ∧ (A.pg n).r ≤ 7) {p more : Int} (hm : 0 ≤ more ∧ more ≤ 7) (hp : p ∈ A.ks) :
    proR A p 1 (bits .or .i64 (A.pg p).r more) = 0 ∧ LeR A (proA A p 1 (bits .or .i64 (A.pg p).r more)) := by
  obtain ⟨⟨o0, o1⟩, oc⟩ := or_rights (hr p hp) hm
  obtain ⟨x, hx⟩ : ∃ x, bits .or .i64 (A.pg p).r more = x := ⟨_, rfl⟩
  rw [hx] at o0 o1 oc ⊢
  have hw : withinB p 1 = true := decide_eq_true (by have := hrng p hp; omega)
  have h0 : proR A p 1 x = 0 := by
    unfold proR
    rw [hw, if_neg (by simp; omega), inL_one hu, if_pos hp, if_neg (by simp)]
  refine ⟨h0, ?_⟩
  have e : proA A p 1 x = A.prot1 x p := by
    unfold proA
    rw [if_pos h0, inL_one hu, if_pos hp]; rfl
  rw [e]
  refine ⟨rfl, fun n hn => ?_, fun n hn c c0 c1 hc => ?_⟩
  · show (updPg A.pg p ⟨x, (A.pg p).bs⟩ n).bs = _
    by_cases hnp : n = p
    · subst hnp; rw [updPg_same]
    · rw [updPg_ne hnp]
  · show bits .and .i64 (updPg A.pg p ⟨x, (A.pg p).bs⟩ n).r c = c
    by_cases hnp : n = p
    · subst hnp; rw [updPg_same]; exact oc c c0 c1 hc
    · rw [updPg_ne hnp]; exact hc
theorem pro_none (hu : Up A.ks) {p x : Int} (hp : p ∉ A.ks) : proR A p 1 x = 1 ∨ proR A p 1 x = 5 := by
  unfold proR
  split
  · exact .inl rfl
  · rw [inL_one hu, if_neg hp, if_pos (by simp)]; exact .inr rfl
end
theorem M1.Rights {B : Nat} {W : World} {b : Nat} {A : PM} (h : M1 B W b A) (n : Int) :
    Calls Try.prog 28 #[.pointer (some ⟨b, 0, none⟩), .int .i64 n] W fun e w' => e = .returned (.tuple #[.int .i64 (if n ∈ A.ks then (A.pg n).r else 0), .bool (decide (n ∈ A.ks))]) ∧ W = w' := by
  obtain ⟨S, h1, _⟩ := h.ex
  exact Rights_any W b S A n h1.mem
theorem M1.up {B : Nat} {W : World} {b : Nat} {A : PM} (h : M1 B W b A) : Up A.ks := by
  obtain ⟨S, h1, _⟩ := h.ex
  exact h1.mem.up
theorem M1.rng {B : Nat} {W : World} {b : Nat} {A : PM} (h : M1 B W b A) : ∀ n ∈ A.ks, 0 ≤ n ∧ n < 16777216 := by
  obtain ⟨S, h1, _⟩ := h.ex
  exact h1.mem.rng
theorem M1.len {B : Nat} {W : World} {b : Nat} {A : PM} (h : M1 B W b A) : A.ks.length ≤ 2000 := by
  obtain ⟨S, h1, _⟩ := h.ex
  exact h1.mem.le
theorem M2.upd_low {B : Nat} {W W' : World} {b c x : Nat} {A C : PM} (h : M2 B W b A c C) (hu : Upd (fun k => k = x) W W') (hx : x < B) : M2 B W' b A c C := by
  obtain ⟨S, T, h1, h2, h3, h4, h5, h6⟩ := h.ex
  exact ⟨S, T, ⟨h1.mem.upd hu fun k hk e => by have := h3 k hk; omega, h1.bp⟩, ⟨h2.mem.upd hu fun k hk e => by have := h4 k hk; omega, h2.bp⟩, h3, h4, h5, h6⟩
end Go.Proofs.Ytidojcogojchpaa

/- mem: Same. -/
set_option linter.unusedVariables false
set_option linter.unusedSimpArgs false
namespace Go.Proofs.Ytidojcogojchpaa
open Go.RowKit Go.Shelf

def pgEq (p q : Pg) : Bool := decide (p.r = q.r ∧ p.bs = q.bs)
def toU8 (xs : List Int) : List UInt8 := xs.map fun x => UInt8.ofNat x.toNat
theorem nums_cells {xs : List Int} (h : ∀ x ∈ xs, 0 ≤ x ∧ x < 256) : nums .u8 xs = (toU8 xs).map Extern.Stop.cell := by
  unfold nums toU8
  rw [List.map_map]
  refine List.map_congr_left fun x hx => ?_
  have := h x hx
  show Value.int .u8 x = Value.int .u8 _
  congr 1
  simp only [UInt8.toNat_ofNat']
  rw [Nat.mod_eq_of_lt (by omega)]
  show x = ((x.toNat : Nat) : Int)
  omega
theorem toU8_inj {xs ys : List Int} (hx : ∀ x ∈ xs, 0 ≤ x ∧ x < 256) (hy : ∀ x ∈ ys, 0 ≤ x ∧ x < 256) (h : toU8 xs = toU8 ys) : xs = ys := by
  have h1 := nums_cells hx
  have h2 := nums_cells hy
  rw [h, ← h2] at h1
  have := congrArg (List.map fun v => match v with | Value.int _ x => x | _ => 0) h1
  simpa [nums, List.map_map, Function.comp_def] using this
theorem tail_bs (r : Pg) (hr : r.bs.length = 256) : List.take 256 (pgCells r).tail = nums .u8 r.bs := by
  have e : (pgCells r).tail = nums .u8 r.bs := rfl
  rw [e]
  exact List.take_of_length_le (by simp [nums, hr])
theorem arr_size : (Try.prog.info? 96).map (·.size) = some 256 := by kernel_rfl
theorem part_arr (r : Pg) (hr : r.bs.length = 256) (V : World) : (part 96 (pgCells r).toArray 1).run Try.prog V = .ok (.agg (nums .u8 r.bs).toArray) V := by
  have hi := arr_size
  have hx2 := tail_bs r hr
  cases hq : Try.prog.info? 96 with
  | none => rw [hq] at hi; cases hi
  | some i =>
    rw [hq] at hi
    have hs : i.size = 256 := by simpa using hi
    simp [part, isAgg, run_underlying Try.underlying96, sizeOf, typeInfo, hq, hs, hx2]
theorem u8_size (w : World) : (sizeOf 5).run Try.prog w = .ok 1 w := by
  have hi : (Try.prog.info? 5).map (·.size) = some 1 := by kernel_rfl
  cases hq : Try.prog.info? 5 with
  | none => rw [hq] at hi; cases hi
  | some i =>
    rw [hq] at hi
    have hs : i.size = 1 := by simpa using hi
    simp [sizeOf, typeInfo, hq, hs]
theorem eq_arr (p q : Pg) (hp : PgOk p) (hq : PgOk q) (d : Nat) (V : World) : (Op.equalIn (d + 2) 96 (.agg (nums .u8 p.bs).toArray) (.agg (nums .u8 q.bs).toArray)).run Try.prog V = .ok (decide (p.bs = q.bs)) V := by
  have hpl := hp.len
  have hql := hq.len
  rw [nums_cells hp.u8, nums_cells hq.u8, run_equalIn_bytes (w := V) d 96 5 256 Try.underlying96 Try.underlying5 u8_size (toU8 p.bs) (toU8 q.bs) (by simp [toU8, hpl]) (by simp [toU8, hql])]
  congr 1
  rw [Bool.eq_iff_iff]
  simp only [beq_iff_eq, decide_eq_true_eq]
  exact ⟨toU8_inj hp.u8 hq.u8, fun e => by rw [e]⟩
theorem pg_fields : (Try.prog.fieldsOf 98).toList.map (fun f => (f.name, f.type, f.offset)) = [("rights", 3, 0), ("b", 96, 1)] := by kernel_rfl
theorem pg_part0 (r : Pg) (V : World) : (part 3 (pgCells r).toArray 0).run Try.prog V = .ok (.int .i64 r.r) V := by
  simp [part, isAgg, run_underlying Try.underlying3, pgCells]
theorem pg_struct : Try.prog.underlying 98 = some (.struct (Try.prog.fieldsOf 98)) := by kernel_rfl
theorem pg_stood : Try.prog.stoodInHeld 98 = false := by kernel_rfl
theorem eq_page (p q : Pg) (hp : PgOk p) (hq : PgOk q) (d : Nat) (V : World) : (Op.equalIn (d + 3) 98 (.agg (pgCells p).toArray) (.agg (pgCells q).toArray)).run Try.prog V = .ok (pgEq p q) V := by
  have e3 := eq_arr p q hp hq d V
  have e4 : (Op.equalIn (d + 2) 3 (.int .i64 p.r) (.int .i64 q.r)).run Try.prog V = .ok (p.r == q.r) V := run_equalIn_int V (d + 1) 3 .i64 .i64 p.r q.r Try.underlying3
  rw [run_equalIn_struct (w := V) (d + 2) 98 _ _ pg_struct pg_stood]
  have hf := pg_fields
  generalize (Try.prog.fieldsOf 98).toList = fs at hf
  rcases fs with _ | ⟨f1, _ | ⟨f2, _ | ⟨f3, l⟩⟩⟩
  · cases hf
  · simp at hf
  · simp only [List.map_cons, List.map_nil, List.cons.injEq, Prod.mk.injEq, and_true] at hf
    obtain ⟨⟨n1, t1, o1⟩, ⟨n2, t2, o2⟩⟩ := hf
    simp only [Op.eqFields, n1, t1, o1, n2, t2, o2]
    have k1 : ("rights" : String) ≠ "_" := by decide
    have k2 : ("b" : String) ≠ "_" := by decide
    rw [if_pos k1, if_pos k2]
    simp only [Sem.run_bind, pg_part0, e4, Result.andThen_ok]
    unfold pgEq
    cases hb : (p.r == q.r) with
    | false =>
      have h1 : ¬ p.r = q.r := by simpa using hb
      simp [h1]
    | true =>
      have h1 : p.r = q.r := by simpa using hb
      simp only [Bool.not_true, Bool.false_eq_true, if_false, Sem.run_bind, part_arr p hp.len, part_arr q hq.len, e3, Result.andThen_ok]
      by_cases h2 : p.bs = q.bs
      · simp [h1, h2]
      · simp [h1, h2]
  · simp at hf
theorem neq_page (p q : Pg) (hp : PgOk p) (hq : PgOk q) (V : World) : (binOp .neq 98 (.agg (pgCells p).toArray) (.agg (pgCells q).toArray)).run Try.prog V = .ok (.bool (!pgEq p q)) V := by
  have h := eq_page p q hp hq
  have h' : (Op.equalIn 10000 98 (.agg (pgCells p).toArray) (.agg (pgCells q).toArray)).run Try.prog V = .ok (pgEq p q) V := h 9997 V
  rw [run_neq_struct, h']
  rfl
end Go.Proofs.Ytidojcogojchpaa

/- mem: Same. -/
set_option linter.unusedVariables false
set_option linter.unusedSimpArgs false
namespace Go.Proofs.Ytidojcogojchpaa
open Go.RowKit Go.Shelf

section
variable {P : Program} (w : World)
theorem run_neq_ptr_same {tp te : TypeId} {j : TypeInfo} (a : Addr) (hp : P.underlying tp = some (.pointer te)) (hte : P.info? te = some j) :
    (binOp .neq tp (.pointer (some a)) (.pointer (some a))).run P w = .ok (.bool false) w := by
  have h : ∀ d : Nat, (Op.equalIn (d + 1) tp (.pointer (some a)) (.pointer (some a))).run P w = .ok true w := fun d => by
    simp [Op.equalIn, run_underlying hp, sizeOf, typeInfo, hte, run_sameAddr_same]
  simp only [binOp]
  simp [Op.equal, Op.maxDepth, h 9999]
theorem run_neq_ptr_other {tp te : TypeId} {j : TypeInfo} {a b : Addr} {ca cb : Array Value} {ta tb : TypeId} (hp : P.underlying tp = some (.pointer te)) (hte : P.info? te = some j) (hsz : j.size ≠ 0)
    (hne : a ≠ b) (ha : w.heap[a.block]? = some (.cells ca ta (0, 0))) (hb : w.heap[b.block]? = some (.cells cb tb (0, 0))) :
    (binOp .neq tp (.pointer (some a)) (.pointer (some b))).run P w = .ok (.bool true) w := by
  have h : ∀ d : Nat, (Op.equalIn (d + 1) tp (.pointer (some a)) (.pointer (some b))).run P w = .ok false w := fun d => by
    simp [Op.equalIn, run_underlying hp, sizeOf, typeInfo, hte, hsz, run_sameAddr_other w hne ha hb]
  simp only [binOp]
  simp [Op.equal, Op.maxDepth, h 9999]
/-- One operation of a quiet walk whose run is known. -/
theorem quiet_of_run {C : World → Prop} {o : Oper} {a : Act} {K : Act → Prop} (v : Value) (h : ∀ w, C w → (execOp a.eval o).run P w = .ok (.value v) w) (hk : K (a.put o.dst v)) : o.quiet P a C K :=
  ⟨v, fun w hw => by unfold Oper.quietAt; rw [h w hw]; exact ⟨rfl, rfl⟩, hk⟩
theorem run_load_op {op : Oper} {a : Act} {w : World} (ty : TypeId) (x : Operand) (ho : op.op = .load ty x) (b o : Nat) (hx : a.eval x = .pointer (some ⟨b, o, none⟩)) (cs : List Value) (d : TypeDesc) (hS : w.rangeAt b o cs)
    (hu : P.underlying ty = some d) (hd : d.isRow = true) (hi : (P.info? ty).map (·.size) = some cs.length) : (execOp a.eval op).run P w = .ok (.value (.agg cs.toArray)) w := by
  unfold execOp
  simp only [ho, hx, Instr.loadAt, Instr.sureAddr, Sem.run_bind, Sem.run_pure, Result.andThen_ok, run_loadVar_mid w b o ty cs d hS hu hd hi]
theorem run_neq_op {op : Oper} {a : Act} {w : World} (ty : TypeId) (x y : Operand) (ho : op.op = .binOp .neq ty x y ty) (vx vy : Value) (v : Value) (hx : a.eval x = vx) (hy : a.eval y = vy) (hr : (eqGuard .neq ty x y vx vy).run P w = .ok () w) (h : (binOp .neq ty vx vy).run P w = .ok v w) :
    (execOp a.eval op).run P w = .ok (.value v) w := by
  unfold execOp
  simp only [ho, hx, hy, Sem.run_bind, hr, h, Result.andThen_ok, Sem.run_pure]
end
theorem region_just {P : Program} {id : Nat} {Q : Exit → Act → World → Prop} {a : Act} {w w0 : World} {l : List Oper} (hd : w.drew = w0) (hm : P.follows .mixedOrders = true) (hB : Region.lexB .any l.toArray = true)
    (h : wpQuiet P l.toArray (fun w' => ∃ q : Just w0, w' = q.W) (fun a' => ∀ w', (∃ q : Just w0, w' = q.W) → Q .normal a' w') l a) : (Code.region id l.toArray true).wp P Q a w :=
  wp_region_quiet (C := fun w' => ∃ q : Just w0, w' = q.W) hm hB ⟨⟨w.drew, hd⟩, rfl⟩ (by simpa using h)
theorem pg_infoE : ∃ j : TypeInfo, Try.prog.info? 98 = some j ∧ j.size ≠ 0 := by
  have hi : (Try.prog.info? 98).map (·.size) = some 257 := by kernel_rfl
  cases hq : Try.prog.info? 98 with
  | none => rw [hq] at hi; cases hi
  | some i =>
    rw [hq] at hi
    have hs : i.size = 257 := by simpa using hi
    exact ⟨i, rfl, by omega⟩
def sameM (A C : PM) : Bool := decide (A.ks = C.ks) && A.ks.all fun n => pgEq (A.pg n) (C.pg n)
theorem sameM_not {A C : PM} (k : Int) (hk : k ∈ A.ks) (h : pgEq (A.pg k) (C.pg k) = false) : sameM A C = false := by
  unfold sameM
  have : (A.ks.all fun n => pgEq (A.pg n) (C.pg n)) = false := by
    rw [List.all_eq_false]
    exact ⟨k, hk, by rw [h]; simp⟩
  rw [this, Bool.and_false]
theorem sameM_all {A C : PM} (hk : A.ks = C.ks) (h : ∀ j, j < A.ks.length → pgEq (A.pg (gi A.ks j)) (C.pg (gi A.ks j)) = true) : sameM A C = true := by
  unfold sameM
  rw [decide_eq_true hk, Bool.true_and, List.all_eq_true]
  intro n hn
  obtain ⟨j, hj, rfl⟩ := List.getElem_of_mem hn
  have := h j hj
  rwa [gi_get _ _ hj] at this
theorem pgEq_self (p : Pg) : pgEq p p = true := decide_eq_true ⟨rfl, rfl⟩
set_option maxRecDepth 100000 in
set_option maxHeartbeats 4000000 in
theorem Same_any (W : World) (a b : Nat) (S T : MS) (A C : PM) (ha : MemIs W a S A) (hb : MemIs W b T C) :
    Calls Try.prog 19 #[.pointer (some ⟨a, 0, none⟩), .pointer (some ⟨b, 0, none⟩)] W fun e w' => e = .returned (.bool (sameM A C)) ∧ Below W.heap.size W w' := by
  have HKA := Lib.hid (known_any W a S A ha)
  have HA := Lib.hid ha
  have HBB := Lib.hid hb
  have hle1 := ha.le
  have hle2 := hb.le
  clear ha hb
  go_enter Try.func19, Try.ntmps19
  go_wp2_with fail
  refine HKA.out.mono ?_
  rintro e w1 ⟨v1, rfl, hk1⟩
  obtain ⟨A1, c1, rfl, rd1⟩ := own_rd hk1.row
  have HB1 := Lib.hid hk1.below
  have R1 := Lib.hid rd1
  have HKB := Lib.hid (known_any w1 b T C (HBB.out.below hk1.below))
  clear hk1 rd1 HKA
  go_wp2_with fail
  refine HKB.out.mono ?_
  rintro e w2 ⟨v2, rfl, hk2⟩
  obtain ⟨A2, c2, rfl, rd2⟩ := own_rd hk2.row
  have HB2 := Lib.hid (bvia HB1.out hk2.below (Nat.le_refl _))
  have HEQ := Lib.hid (Equal_ints w2 A1 A2 A.ks C.ks c1 c2 (R1.out.below hk2.below) rd2)
  have R12 := Lib.hid (R1.out.below hk2.below)
  clear hk2 rd2 HKB
  go_wp2_with fail
  refine HEQ.out.mono ?_
  rintro e w3 ⟨rfl, hb3⟩
  have HB3 := Lib.hid (bvia HB2.out hb3 (Nat.le_refl _))
  have R3 := Lib.hid (R12.out.below hb3)
  clear hb3 HEQ R12 R1
  by_cases hks : A.ks = C.ks
  · rw [decide_eq_true hks]
    have HKS := Lib.hid hks
    clear hks
    obtain ⟨ks, hks⟩ : ∃ ks, A.ks = ks := ⟨_, rfl⟩
    rw [hks] at R3 hle1 ⊢
    have HK := Lib.hid hks
    clear hks
    have hc1 := R3.out.le
    go_wp2_with fail
    go_loopw [19] (fun i wr => ∃ k : Nat, k ≤ ks.length ∧ i = .int .i64 k ∧ Hid (Below w3.heap.size w3 wr ∧ ∀ j, j < k → pgEq (A.pg (gi ks j)) (C.pg (gi ks j)) = true)) (fun i _ => ks.length - (intOf i).toNat)
    case atStart => exact ⟨0, Nat.zero_le _, rfl, Lib.hid ⟨Below.refl _ _, fun j hj => by omega⟩⟩
    case round =>
      obtain ⟨k, hk, rfl, hI⟩ := hrel
      obtain ⟨hbr, hall⟩ := hI.out
      by_cases hlt : k < ks.length
      · obtain ⟨ad, rfl, x0⟩ := RdI.at (R3.out.below hbr) k hlt
        have hbw := bvia HB3.out hbr (Nat.le_refl _)
        have hma := HA.out.below hbw
        have hmb := HBB.out.below hbw
        obtain ⟨n, hn⟩ : ∃ n, gi ks k = n := ⟨_, rfl⟩
        have hnA : n ∈ A.ks := by rw [HK.out, ← hn]; exact gi_mem ks k hlt
        have hnC : n ∈ C.ks := by rw [← HKS.out]; exact hnA
        have hata := at_any wr a S A n hma
        rw [if_pos hnA] at hata
        have hatb := at_any wr b T C n hmb
        rw [if_pos hnC] at hatb
        have HATA := Lib.hid hata
        have HATB := Lib.hid hatb
        obtain ⟨pa, oka⟩ := hma.page n hnA
        obtain ⟨pb, okb⟩ := hmb.page n hnC
        have HALL := Lib.hid hall
        have HBR := Lib.hid hbr
        rw [hn] at x0
        have HN := Lib.hid hn
        have HNA := Lib.hid hnA
        obtain ⟨W6, hW6⟩ : ∃ W6, wr.drew = W6 := ⟨_, rfl⟩
        have hb6 : Below w3.heap.size w3 W6 := by rw [← hW6]; exact bdrewN hbr 1
        have HB6 := Lib.hid hb6
        have hpa : ∀ q : Just W6, q.W.heap[S.at_ n]? = some (pgObj (A.pg n)) := fun q => by rw [q.eq, ← hW6]; exact pa
        have hpb : ∀ q : Just W6, q.W.heap[T.at_ n]? = some (pgObj (C.pg n)) := fun q => by rw [q.eq, ← hW6]; exact pb
        obtain ⟨j0, hj0, hjs⟩ := pg_infoE
        clear hI hbr hall hbw hma hmb hata hatb hnA hnC hn hb6
        by_cases hsame : S.at_ n = T.at_ n
        · have hne : ∀ q : Just W6, (binOp .neq 95 (.pointer (some ⟨S.at_ n, 0, none⟩)) (.pointer (some ⟨T.at_ n, 0, none⟩))).run Try.prog q.W = .ok (.bool false) q.W := fun q => by
            rw [hsame]; exact run_neq_ptr_same q.W _ Try.underlying95 hj0
          have heq : pgEq (A.pg n) (C.pg n) = true := by
            rw [hsame, pb] at pa
            have : C.pg n = A.pg n := pgObj_inj (Option.some.inj pa)
            rw [this]; exact pgEq_self _
          have HE := Lib.hid heq
          clear hsame heq pa pb hpa hpb hj0 hjs
          go_wp2_with fail
          refine HATA.out.mono ?_
          rintro e wx ⟨rfl, rfl⟩
          go_wp2_with fail
          refine HATB.out.mono ?_
          rintro e wx ⟨rfl, rfl⟩
          go_wp2_with fail
          refine region_just hW6 (by kernel_rfl) (by kernel_rfl) ?_
          repeat (go_big_quiet_step (fail))
          refine wpQuiet_nil ?_
          rintro _ ⟨q, rfl⟩
          rw [q.eq]
          go_wp2_with fail
          go_roundw
          case rel => exact ⟨k + 1, by omega, by go_num, Lib.hid ⟨HB6.out, fun j hj => by
            by_cases hjk : j = k
            · rw [hjk, HN.out]; exact HE.out
            · exact HALL.out j (by omega)⟩⟩
          case measure => simp [intOf]; omega
        · have hne : ∀ q : Just W6, (binOp .neq 95 (.pointer (some ⟨S.at_ n, 0, none⟩)) (.pointer (some ⟨T.at_ n, 0, none⟩))).run Try.prog q.W = .ok (.bool true) q.W := fun q =>
            run_neq_ptr_other q.W Try.underlying95 hj0 hjs (fun e => hsame (by injection e)) (hpa q) (hpb q)
          have hnp : ∀ V, (binOp .neq 98 (.agg (pgCells (A.pg n)).toArray) (.agg (pgCells (C.pg n)).toArray)).run Try.prog V = .ok (.bool (!pgEq (A.pg n) (C.pg n))) V := neq_page _ _ oka okb
          have sza : (Try.prog.info? 98).map (·.size) = some (pgCells (A.pg n)).length := by rw [pgCells_len oka]; kernel_rfl
          have szb : (Try.prog.info? 98).map (·.size) = some (pgCells (C.pg n)).length := by rw [pgCells_len okb]; kernel_rfl
          have rga : ∀ q : Just W6, q.W.rangeAt (S.at_ n) 0 (pgCells (A.pg n)) := fun q => pg_range (hpa q)
          have rgb : ∀ q : Just W6, q.W.rangeAt (T.at_ n) 0 (pgCells (C.pg n)) := fun q => pg_range (hpb q)
          obtain ⟨pA, hpA⟩ : ∃ p, S.at_ n = p := ⟨_, rfl⟩
          obtain ⟨pB, hpB⟩ : ∃ p, T.at_ n = p := ⟨_, rfl⟩
          have HATA2 : Hid (Calls Try.prog 62 #[.pointer (some ⟨a, 0, none⟩), .int .i64 n] wr fun e w' => e = .returned (.pointer (some ⟨pA, 0, none⟩)) ∧ wr = w') := Lib.hid (by rw [← hpA]; exact HATA.out)
          have HATB2 : Hid (Calls Try.prog 62 #[.pointer (some ⟨b, 0, none⟩), .int .i64 n] wr fun e w' => e = .returned (.pointer (some ⟨pB, 0, none⟩)) ∧ wr = w') := Lib.hid (by rw [← hpB]; exact HATB.out)
          rw [hpA, hpB] at hne
          rw [hpA] at rga
          rw [hpB] at rgb
          obtain ⟨ca, hca⟩ : ∃ ca, pgCells (A.pg n) = ca := ⟨_, rfl⟩
          obtain ⟨cc, hcc⟩ : ∃ cc, pgCells (C.pg n) = cc := ⟨_, rfl⟩
          rw [hca] at rga sza hnp
          rw [hcc] at rgb szb hnp
          obtain ⟨bo, hbo⟩ : ∃ bo, pgEq (A.pg n) (C.pg n) = bo := ⟨_, rfl⟩
          rw [hbo] at hnp
          have HBO := Lib.hid hbo
          have HNP := Lib.hid hnp
          have HRA := Lib.hid rga
          have HRB := Lib.hid rgb
          have HSA := Lib.hid sza
          have HSB := Lib.hid szb
          clear hsame pa pb hpa hpb hj0 hjs hpA hpB HATA HATB hca hcc hbo hnp rga rgb sza szb oka okb
          go_wp2_with fail
          refine HATA2.out.mono ?_
          rintro e wx ⟨rfl, rfl⟩
          go_wp2_with fail
          refine HATB2.out.mono ?_
          rintro e wx ⟨rfl, rfl⟩
          go_wp2_with fail
          refine region_just hW6 (by kernel_rfl) (by kernel_rfl) ?_
          iterate 6 (go_big_quiet_step (fail))
          refine BigFrame.wpQuiet_want (by kernel_rfl) (fun K hK => ?_)
          refine quiet_of_run (.agg ca.toArray) (fun V hV => ?_) (hK _ ?_)
          · obtain ⟨q, rfl⟩ := hV
            exact run_load_op 98 (.tmp 34) rfl pA 0 rfl ca _ (HRA.out q) Try.underlying98 rfl HSA.out
          clear hK K
          simp only [Act.put, List.setIfInBounds_toArray, List.set_cons_zero, List.set_cons_succ]
          iterate 2 (go_big_quiet_step (fail))
          refine BigFrame.wpQuiet_want (by kernel_rfl) (fun K hK => ?_)
          refine quiet_of_run (.agg cc.toArray) (fun V hV => ?_) (hK _ ?_)
          · obtain ⟨q, rfl⟩ := hV
            exact run_load_op 98 (.tmp 37) rfl pB 0 rfl cc _ (HRB.out q) Try.underlying98 rfl HSB.out
          clear hK K
          simp only [Act.put, List.setIfInBounds_toArray, List.set_cons_zero, List.set_cons_succ]
          refine BigFrame.wpQuiet_want (by kernel_rfl) (fun K hK => ?_)
          refine quiet_of_run (.bool (!bo)) (fun V hV => ?_) (hK _ ?_)
          · exact run_neq_op 98 (.tmp 35) (.tmp 38) rfl (.agg ca.toArray) (.agg cc.toArray) _ rfl rfl (run_eqGuard_agg V .neq 98 _ _ _ _ (by kernel_rfl)) (HNP.out V)
          clear hK K
          simp only [Act.put, List.setIfInBounds_toArray, List.set_cons_zero, List.set_cons_succ]
          iterate 1 (go_big_quiet_step (fail))
          refine wpQuiet_nil ?_
          rintro _ ⟨q, rfl⟩
          rw [q.eq]
          cases hb : bo with
          | true =>
            have HE : Hid (pgEq (A.pg n) (C.pg n) = true) := Lib.hid (HBO.out.trans hb)
            clear hb
            go_wp2_with fail
            go_roundw
            case rel => exact ⟨k + 1, by omega, by go_num, Lib.hid ⟨HB6.out, fun j hj => by
              by_cases hjk : j = k
              · rw [hjk, HN.out]; exact HE.out
              · exact HALL.out j (by omega)⟩⟩
            case measure => simp [intOf]; omega
          | false =>
            have HE : Hid (sameM A C = false) := Lib.hid (sameM_not n HNA.out (HBO.out.trans hb))
            have HBR6 := Lib.hid (bvia HB3.out HB6.out (Nat.le_refl _))
            clear hb
            go_wp2_with fail
            go_ret
            rw [HE.out]
            exact ⟨rfl, HBR6.out⟩
      · obtain rfl : k = ks.length := by omega
        have HS := Lib.hid (show sameM A C = true from sameM_all HKS.out (by rw [HK.out]; exact hall))
        have HBR := Lib.hid (bvia HB3.out hbr (Nat.le_refl _))
        clear hI hbr hall
        go_wp2_with fail
        go_ret
        rw [HS.out]
        exact ⟨rfl, HBR.out⟩
  · rw [decide_eq_false hks]
    have HS : Hid (sameM A C = false) := Lib.hid (by unfold sameM; rw [decide_eq_false hks, Bool.false_and])
    clear hks
    go_wp2_with fail
    go_ret
    rw [HS.out]
    exact ⟨rfl, HB3.out⟩
end Go.Proofs.Ytidojcogojchpaa

/- mem's laws: MemBack. -/
set_option linter.unusedVariables false
set_option linter.unusedSimpArgs false
namespace Go.Proofs.Ytidojcogojchpaa
open Go.RowKit Go.Shelf

theorem seeM_eq {ks ks' : List Int} {pg pg' : Int → Pg} (h : seeM ks pg = seeM ks' pg') : ks = ks' ∧ ∀ n ∈ ks, (pg n).r = (pg' n).r ∧ (pg n).bs = (pg' n).bs := by
  have h1 : ks = ks' := by
    have := congrArg (List.map fun t : Int × Int × List Int => t.1) h
    simpa [seeM, List.map_map, Function.comp_def] using this
  subst h1
  refine ⟨rfl, fun n hn => ?_⟩
  have := List.map_inj_left.1 h n hn
  simp only [Prod.mk.injEq, true_and] at this
  exact this
theorem M1.psOk {B : Nat} {W : World} {b : Nat} {A : PM} (h : M1 B W b A) {qs : List PV} (hs : qs.map PV.see = seeM A.ks A.pg) : PsOk qs := by
  obtain ⟨S, h1, _⟩ := h.ex
  have hn : qs.map (·.n) = A.ks := by
    have := congrArg (List.map fun t : Int × Int × List Int => t.1) hs
    simpa [seeM, List.map_map, Function.comp_def, PV.see] using this
  have hmem : ∀ q ∈ qs, q.n ∈ A.ks ∧ q.r = (A.pg q.n).r ∧ q.bs = (A.pg q.n).bs := fun q hq => by
    have hm : q.see ∈ seeM A.ks A.pg := by rw [← hs]; exact List.mem_map.2 ⟨q, hq, rfl⟩
    obtain ⟨k, hk, e⟩ := List.mem_map.1 hm
    simp only [PV.see, Prod.mk.injEq] at e
    obtain ⟨e1, e2, e3⟩ := e
    rw [← e1]
    exact ⟨hk, e2.symm, e3.symm⟩
  have hl : qs.length = A.ks.length := by rw [← hn, List.length_map]
  have hle := h1.mem.le
  exact ⟨by rw [hn]; exact h1.mem.up, fun q hq => h1.mem.rng _ (hmem q hq).1, fun q hq => by
    obtain ⟨e1, e2, e3⟩ := hmem q hq
    have := (h1.mem.page _ e1).2
    exact ⟨by rw [e3]; exact this.len, by rw [e3]; exact this.u8, by rw [e2]; exact this.r⟩, by omega⟩
/-- A memory and the one loaded from its pages. -/
theorem loaded_same {A K : PM} (h : seeM K.ks K.pg = seeM A.ks A.pg) : sameM A K = true ∧ sameM K A = true ∧ diffL A K = [] := by
  obtain ⟨h1, h2⟩ := seeM_eq h
  refine ⟨?_, ?_, diff_nil h1 fun n hn => (h2 n (by rw [h1]; exact hn)).2⟩
  · unfold sameM
    rw [decide_eq_true h1.symm, Bool.true_and, List.all_eq_true]
    intro n hn
    have := h2 n (by rw [h1]; exact hn)
    exact decide_eq_true ⟨this.1.symm, this.2.symm⟩
  · unfold sameM
    rw [decide_eq_true h1, Bool.true_and, List.all_eq_true]
    intro n hn
    exact decide_eq_true (h2 n hn)
theorem Same_M {B1 B2 : Nat} {W : World} {b c : Nat} {A C : PM} (h : M1 B1 W b A) (h' : M1 B2 W c C) :
    Calls Try.prog 19 #[.pointer (some ⟨b, 0, none⟩), .pointer (some ⟨c, 0, none⟩)] W fun e w' => e = .returned (.bool (sameM A C)) ∧ Below W.heap.size W w' := by
  obtain ⟨S, h1, _⟩ := h.ex
  obtain ⟨T, h2, _⟩ := h'.ex
  exact Same_any W b c S T A C h1.mem h2.mem
/-- Map leaves alone what was laid behind the memory. -/
theorem M1.MapK {B : Nat} {W0 W : World} {b : Nat} {A : PM} (h : M1 B W0 b A) (hb : Below W0.heap.size W0 W) (f n r : Int) :
    Calls Try.prog 33 #[.pointer (some ⟨b, 0, none⟩), .int .i64 f, .int .i64 n, .int .i64 r] W fun e w' => e = .returned (.int .i64 (mapR A f n r)) ∧ M1 B w' b (mapA A f n r) ∧ Below B W w' ∧ ∀ k, W0.heap.size ≤ k → k < W.heap.size → w'.heap[k]? = W.heap[k]? := by
  obtain ⟨S, h1, h2⟩ := h.ex
  refine (Map_all W b S A f n r (h1.below hb)).mono fun e w' ⟨a, d⟩ => ?_
  obtain ⟨d1, d2⟩ := M1.of_did (h1.below hb) h2 d
  obtain ⟨S', _, g⟩ := d.ex
  exact ⟨a, d1, d2, fun k hk hk' => g.upd.block k hk' fun hf => by have := h1.mem.lt k (h1.mem.foot_reads k hf); omega⟩
/-- What the loop carries. -/
def BkI (w : World) (B b : Nat) (V : World) : Prop := ∃ A, M1 B V b A ∧ Below w.heap.size w V
set_option maxRecDepth 1000000 in
set_option maxHeartbeats 8000000 in
theorem back_any (A : Option Addr) (c : Nat) (ps : List PV) (D : Option Addr) (cd : Nat) (xs : List CV) (w : World) (hp : PsIn w A c ps) (hx : CsIn w D cd xs) :
    Calls Try.prog 6 #[.slice A ps.length c, .slice D xs.length cd] w fun e w' => e = .returned (.bool true) ∧ Below w.heap.size w w' := by
  have HP := Lib.hid hp
  have HX := Lib.hid hx
  have hlen := hp.rd.le
  have hcx := hx.cap
  have hlx := hx.le
  clear hp hx
  go_enter Try.func6, Try.ntmps6
  go_wp2_with fail
  refine (sane_any w).mono ?_
  rintro e W1 ⟨rfl, hb1⟩
  have HB1 := Lib.hid hb1
  have HP1 := Lib.hid (HP.out.below hb1)
  clear hb1
  go_wp2_with fail
  refine (loaded_any W1 A c ps HP1.out.rd HP1.out.by_ HP1.out.u8).mono ?_
  rintro e W2 ⟨hb2, hres⟩
  have HB2 := Lib.hid (bvia HB1.out hb2 (Nat.le_refl _))
  clear hb2
  rcases hres with ⟨⟨hl20, hisp⟩, mb, rfl, hld⟩ | ⟨hnot, rfl⟩
  · have hc20 : ¬ (ps.length : Int) > 20 := by omega
    have HPO := Lib.hid (psOk_of hisp HP1.out.u8 (by omega))
    have HM := Lib.hid hld.m1.1
    have HISP := Lib.hid hisp
    clear hisp hld
    have HFW := Lib.hid (few_any W2 D cd xs (HX.out.below HB2.out))
    cases hfw : fewB xs with
    | false =>
      rw [hfw] at HFW
      go_wp2_with fail
      refine HFW.out.mono ?_
      rintro e W3 ⟨rfl, hb3⟩
      have HB3 := Lib.hid (bvia HB2.out hb3 (Nat.le_refl _))
      clear hb3
      have HI := Lib.hid (IsPages_any W3 A c ps (HP.out.below HB3.out).rd)
      rw [HISP.out] at HI
      go_wp2_with fail
      refine HI.out.mono ?_
      rintro e W4 ⟨rfl, hb4⟩
      have HB4 := Lib.hid (bvia HB3.out hb4 (Nat.le_refl _))
      clear hb4
      have HFW4 := Lib.hid (few_any W4 D cd xs (HX.out.below HB4.out))
      rw [hfw] at HFW4
      clear hfw HFW
      go_wp2_with fail
      refine HFW4.out.mono ?_
      rintro e W5 ⟨rfl, hb5⟩
      have HB5 := Lib.hid (bvia HB4.out hb5 (Nat.le_refl _))
      clear hb5
      go_wp2_with fail
      go_ret
      exact ⟨rfl, HB5.out⟩
    | true =>
      rw [hfw] at HFW
      clear hfw
      go_wp2_with fail
      refine HFW.out.mono ?_
      rintro e W3 ⟨rfl, hb3⟩
      have HM3 := Lib.hid (HM.out.below hb3)
      have HB3 := Lib.hid (bvia HB2.out hb3 (Nat.le_refl _))
      have hs3 : w.heap.size ≤ W1.heap.size := HB1.out.size
      clear hb3 HFW
      go_wp2_with fail
      refine HM3.out.Save.mono ?_
      rintro e W4 ⟨⟨A4, c4, qs4, rfl, rd4, new4, see4, by4, u4⟩, hb4⟩
      rw [save_load ps HPO.out] at see4
      have HM4 := Lib.hid (HM3.out.below hb4)
      have HB4 := Lib.hid (bvia HB3.out hb4 (Nat.le_refl _))
      have HSP := Lib.hid (SamePages_any W4 A4 A c4 c qs4 ps rd4 ((HP.out.below HB4.out).rd) by4.zero (HP.out.below HB4.out).by_ u4 HP.out.u8)
      rw [sameP_of see4] at HSP
      clear rd4 new4 see4 by4 u4 hb4
      go_wp2_with fail
      refine HSP.out.mono ?_
      rintro e W5 ⟨rfl, hb5⟩
      have HI5 : Hid (BkI w W1.heap.size mb W5) := Lib.hid ⟨_, HM4.out.below hb5, bvia HB4.out hb5 (Nat.le_refl _)⟩
      clear hb5 HSP HM4 HB4 HM3 HB3
      go_wp2_with fail
      go_loopw [45] (fun i wr => ∃ k : Nat, k ≤ xs.length ∧ i = .int .i64 k ∧ Hid (BkI w W1.heap.size mb wr)) (fun i _ => xs.length - (intOf i).toNat)
      case atStart => exact ⟨0, Nat.zero_le _, rfl, HI5⟩
      case round =>
        obtain ⟨k, hk, rfl, hI⟩ := hrel
        obtain ⟨C, m5, hb5⟩ := hI.out
        by_cases hlt : k < xs.length
        · have hXk := HX.out.ok _ (gx_mem xs k hlt)
          obtain ⟨ad, rfl, x0, x1, x2, x3, x4, x5⟩ := (HX.out.below hb5).at k hlt
          obtain ⟨X, hX⟩ : ∃ X, gx xs k = X := ⟨_, rfl⟩
          rw [hX] at x0 x1 x2 x3 x4 x5 hXk
          obtain ⟨kind, pg, n, rt, a, Ab, cb, bs⟩ := X
          obtain ⟨W5, hW5⟩ : ∃ W5, wr.alloc (.cells #[.int .i64 kind, .int .i64 pg, .int .i64 n, .int .i64 rt, .int .u32 a, .slice Ab bs.length cb] 54) = W5 := ⟨_, rfl⟩
          have h5 : W5.heap[wr.heap.size]? = some (.cells #[.int .i64 kind, .int .i64 pg, .int .i64 n, .int .i64 rt, .int .u32 a, .slice Ab bs.length cb] 54 (0, 0)) := by rw [← hW5]; exact heap_alloc_new wr _
          have hbw : Below wr.heap.size wr W5 := by rw [← hW5]; exact balloc wr _
          have y1 : W5.cell? ⟨wr.heap.size, 1, none⟩ = some (.int .i64 pg) := by simp [World.cell?, h5]
          have y2 : W5.cell? ⟨wr.heap.size, 2, none⟩ = some (.int .i64 n) := by simp [World.cell?, h5]
          have y3 : W5.cell? ⟨wr.heap.size, 3, none⟩ = some (.int .i64 rt) := by simp [World.cell?, h5]
          have HH5 := Lib.hid h5
          have HM5 := Lib.hid (m5.MapK hbw pg n rt)
          have hs5 : wr.heap.size < W5.heap.size := (Array.getElem?_eq_some_iff.1 h5).1
          have HB5 := Lib.hid (bvia hb5 hbw (Nat.le_refl _))
          have HOK := Lib.hid hXk
          clear h5 hbw hX hXk m5 hb5 hI
          go_wp2_with fail
          refine HM5.out.mono ?_
          rintro e W6 ⟨rfl, m6, hb6, hkp⟩
          have h6 := (hkp _ (Nat.le_refl _) hs5).trans HH5.out
          have z4 : W6.cell? ⟨wr.heap.size, 4, none⟩ = some (.int .u32 a) := by simp [World.cell?, h6]
          have z5 : W6.cell? ⟨wr.heap.size, 5, none⟩ = some (.slice Ab bs.length cb) := by simp [World.cell?, h6]
          have HM6 := Lib.hid m6
          have HB6 := Lib.hid (HB5.out.trans (hb6.mono hs3))
          obtain ⟨z1, hz1⟩ : ∃ z, mapR C pg n rt = z := ⟨_, rfl⟩
          rw [hz1]
          clear m6 hb6 hkp h6 hz1 y1 y2 y3
          go_wp2_with fail
          refine (HM6.out.Write0 a bs Ab cb HOK.out.at_ HOK.out.bs.cap ((HOK.out.bs.below HB6.out).rd) HOK.out.bs.u8 fun h0 ad e => by have := HOK.out.bs.rd.old (by rw [Nat.mul_one]; exact h0) ad e; omega).mono ?_
          rintro e W7 ⟨rfl, m7, hb7⟩
          have HI7 : Hid (BkI w W1.heap.size mb W7) := Lib.hid ⟨_, m7, HB6.out.trans (hb7.mono hs3)⟩
          obtain ⟨z2, hz2⟩ : ∃ z, wrA (mapA C pg n rt) 2 a bs.length = z := ⟨_, rfl⟩
          obtain ⟨z3, hz3⟩ : ∃ z, wrB (mapA C pg n rt) 2 a bs.length = z := ⟨_, rfl⟩
          rw [hz2, hz3]
          clear m7 hb7 hz2 hz3
          go_wp2_with fail
          go_roundw
          case rel => exact ⟨k + 1, by omega, by go_num, HI7⟩
          case measure => simp [intOf]; omega
        · obtain rfl : k = xs.length := by omega
          have HM5 := Lib.hid m5
          have HB5 := Lib.hid hb5
          clear m5 hb5 hI hlt hk
          obtain ⟨wl, hwl⟩ : ∃ wl, wl = wr := ⟨wr, rfl⟩
          rw [← hwl] at HM5 HB5 ⊢
          clear hwl
          go_wp2_with fail
          refine HM5.out.Save.mono ?_
          rintro e W6 ⟨⟨A6, c6, qs, rfl, rd6, new6, see6, by6, u6⟩, hb6⟩
          have HPQ := Lib.hid (HM5.out.psOk see6)
          have HM6 := Lib.hid (HM5.out.below hb6)
          have HB6 := Lib.hid (bvia HB5.out hb6 (Nat.le_refl _))
          have HSEE := Lib.hid see6
          have HLD := Lib.hid (Load_any W6 A6 c6 qs rd6 by6.zero HPQ.out)
          clear rd6 new6 see6 by6 u6 hb6
          go_wp2_with fail
          refine HLD.out.mono ?_
          rintro e W7 ⟨kb, rfl, hld⟩
          obtain ⟨k7, hb7⟩ := hld.m1
          obtain ⟨K, hK⟩ : ∃ K, ldM qs = K := ⟨_, rfl⟩
          rw [hK] at k7
          have HSL : Hid (seeM K.ks K.pg = seeM C.ks C.pg) := Lib.hid (by rw [← hK, save_load qs HPQ.out, HSEE.out])
          have HK7 := Lib.hid k7
          have HM7 := Lib.hid (HM6.out.below hb7)
          have HB7 := Lib.hid (bvia HB6.out hb7 (Nat.le_refl _))
          have HLS := Lib.hid (loaded_same HSL.out)
          clear hld k7 hb7 hK HLD HPQ HSEE
          go_wp2_with fail
          refine (Same_M HM7.out HK7.out).mono ?_
          rintro e W8 ⟨rfl, hb8⟩
          rw [HLS.out.1]
          have HM8 := Lib.hid (HM7.out.below hb8)
          have HK8 := Lib.hid (HK7.out.below hb8)
          have HB8 := Lib.hid (bvia HB7.out hb8 (Nat.le_refl _))
          clear hb8
          go_wp2_with fail
          refine (Same_M HK8.out HM8.out).mono ?_
          rintro e W9 ⟨rfl, hb9⟩
          rw [HLS.out.2.1]
          have HM9 := Lib.hid (HM8.out.below hb9)
          have HK9 := Lib.hid (HK8.out.below hb9)
          have HB9 := Lib.hid (bvia HB8.out hb9 (Nat.le_refl _))
          clear hb9
          go_wp2_with fail
          refine HM9.out.Save.mono ?_
          rintro e W10 ⟨⟨A10, c10, qa, rfl, rd10, new10, see10, by10, u10⟩, hb10⟩
          have HM10 := Lib.hid (HM9.out.below hb10)
          have HK10 := Lib.hid (HK9.out.below hb10)
          have HB10 := Lib.hid (bvia HB9.out hb10 (Nat.le_refl _))
          have R10 := Lib.hid rd10
          have Y10 := Lib.hid by10
          have HSA := Lib.hid see10
          have HUA := Lib.hid u10
          clear hb10 rd10 new10 see10 by10 u10
          go_wp2_with fail
          refine HK10.out.Save.mono ?_
          rintro e W11 ⟨⟨A11, c11, qb, rfl, rd11, new11, see11, by11, u11⟩, hb11⟩
          have HM11 := Lib.hid (HM10.out.below hb11)
          have HK11 := Lib.hid (HK10.out.below hb11)
          have HB11 := Lib.hid (bvia HB10.out hb11 (Nat.le_refl _))
          have HSP := Lib.hid (SamePages_any W11 A10 A11 c10 c11 qa qb (R10.out.below hb11) rd11 (Y10.out.below hb11).zero by11.zero HUA.out u11)
          rw [sameP_of (HSA.out.trans (HSL.out.symm.trans see11.symm))] at HSP
          clear hb11 rd11 new11 see11 by11 u11
          go_wp2_with fail
          refine HSP.out.mono ?_
          rintro e W12 ⟨rfl, hb12⟩
          have HM12 := Lib.hid (HM11.out.below hb12)
          have HK12 := Lib.hid (HK11.out.below hb12)
          have HB12 := Lib.hid (bvia HB11.out hb12 (Nat.le_refl _))
          clear hb12 HSP
          go_wp2_with fail
          refine (Diff_M HM12.out HK12.out).mono ?_
          rintro e W13 ⟨⟨A13, c13, rfl, rd13, new13⟩, hb13⟩
          rw [HLS.out.2.2]
          have HB13 := Lib.hid (bvia HB12.out hb13 (Nat.le_refl _))
          clear rd13 new13 hb13
          go_wp2_with fail
          go_ret
          exact ⟨rfl, HB13.out⟩
  · have HI := Lib.hid (IsPages_any W2 A c ps (HP.out.below HB2.out).rd)
    cases hisp : isP ps with
    | false =>
      rw [hisp] at HI
      clear hisp hnot
      go_wp2_with fail
      refine HI.out.mono ?_
      rintro e W3 ⟨rfl, hb3⟩
      have HB3 := Lib.hid (bvia HB2.out hb3 (Nat.le_refl _))
      clear hb3
      go_wp2_with fail
      go_ret
      exact ⟨rfl, HB3.out⟩
    | true =>
      have hc20 : (ps.length : Int) > 20 := by
        rcases Nat.lt_or_ge 20 ps.length with h | h
        · omega
        · exact absurd ⟨h, hisp⟩ hnot
      rw [hisp] at HI
      clear hisp hnot
      go_wp2_with fail
      refine HI.out.mono ?_
      rintro e W3 ⟨rfl, hb3⟩
      have HB3 := Lib.hid (bvia HB2.out hb3 (Nat.le_refl _))
      clear hb3
      go_wp2_with fail
      go_ret
      exact ⟨rfl, HB3.out⟩
end Go.Proofs.Ytidojcogojchpaa

/- package slices: Grow of a nil slice of bytes, Concat of two slices of bytes. -/
set_option linter.unusedVariables false
set_option linter.unusedSimpArgs false
namespace Go.Proofs.Ytidojcogojchpaa
open Go.RowKit Go.Shelf

set_option maxRecDepth 100000 in
set_option maxHeartbeats 2000000 in
theorem Grow_nil (w : World) (n : Nat) (hn : n ≤ 1000000) :
    Calls Try.prog 76 #[.slice none 0 0, .int .i64 n] w fun e w' => ∃ v, e = .returned v ∧ w'.ownsRow w.heap.size 5 1 v 0 [] ∧ Below w.heap.size w w' := by
  by_cases h0 : n = 0
  · subst h0
    go_enter Try.func76, Try.ntmps76
    go_wp2
    go_ret
    exact ⟨_, rfl, World.ownsRow_nil _ _ _ _, Below.refl _ _⟩
  · obtain ⟨i0, hi0, hz0, hz1, hz2⟩ := info_parts info_u8
    have hrz := Lib.run_append_grow_zeros (P := Try.prog) w 42 3 42 5 i0 (Value.int .u8 0) .i64 .i64 Try.underlying42 Try.underlying3 hi0 hz0 none 0 0 [] (run_firstCells_none w.drew i0.size 0 0 0) n (by omega) (by omega) (by omega) (by omega) (by rw [hz2]; omega)
      (growslice_fits (by omega) (by rw [hz2]; omega))
    have hge : 0 + n ≤ grownCap w (0 + n) 0 5 := grownCap_ge w _ _ _
    have hmx := grownCap_le_maxLen w (0 + n) 0 5 (by unfold maxLen; omega)
    obtain ⟨G, hG⟩ : ∃ G, grownCap w (0 + n) 0 5 = G := ⟨_, rfl⟩
    rw [hG] at hrz hge hmx
    have hG63 : G ≤ 9223372036854775807 := by unfold maxLen at hmx; omega
    obtain ⟨cur, hcur⟩ : ∃ cur, (([] : List Value).toArray ++ Builtin.zeroCells (Value.int .u8 0).cells n ++ Builtin.zeroCells (Value.int .u8 0).cells (G - (0 + n))) = cur := ⟨_, rfl⟩
    rw [hcur] at hrz
    have hsz : cur.size = G := by
      rw [← hcur]
      simp [Builtin.zeroCells, Value.cells]
      omega
    have e1 : ¬ ((n : Int) < 0) := by omega
    have e2 : (n : Int) > 0 := by omega
    have e3 : wrap64 (n : Int) = n := by unfold wrap64; omega
    have HS := Lib.hid hsz
    have HM := Lib.hid hmx
    have hrz' : (Builtin.append_ #[42, 3] 42 #[.slice none 0 0, .int .i64 n]).run Try.prog w = .ok (.slice (some ⟨w.heap.size, 0, none⟩) n G) (w.drew.alloc (.cells cur 5)) := by rw [hrz]; simp
    clear hcur hG hrz hi0 hz0 hz1 hz2 hmx
    go_enter Try.func76, Try.ntmps76
    go_wp2_with (at_builtin; refine Lib.wpList_append_run _ rfl (.tmp 20) (.tmp 21) _ _ rfl _ _ rfl rfl _ _ hrz' ?_)
    all_goals
      go_ret
      refine ⟨_, rfl, ⟨rfl, .inr ⟨w.heap.size, G, cur, rfl, Nat.le_refl _, heap_alloc_new _ _, Nat.zero_le _, HM.out, by rw [HS.out]; omega, by simp⟩⟩, ?_⟩
      exact bvia (bdrewN (Below.refl _ w) 1) (balloc _ _) (Nat.le_refl _)
def cc2 (xs ys : List Int) : Nat → List Int
  | 0 => [] | 1 => xs | _ => xs ++ ys
set_option maxRecDepth 100000 in
set_option maxHeartbeats 4000000 in
theorem Concat2 (W : World) (g : Nat) (A1 A2 : Option Addr) (xs ys : List Int) (c1 c2 : Nat) (hg : W.heap[g]? = some (.cells #[.slice A1 xs.length c1, .slice A2 ys.length c2] 42 (0, 0)))
    (r1 : Rd W A1 xs.length 1 (nums .u8 xs)) (r2 : Rd W A2 ys.length 1 (nums .u8 ys)) (hx : xs.length ≤ 100000) (hy : ys.length ≤ 100000) (h1 : xs.length ≤ c1) (h2 : ys.length ≤ c2) :
    Calls Try.prog 38 #[.slice (some ⟨g, 0, none⟩) 2 2] W fun e w' => ∃ v, e = .returned v ∧ w'.ownsRow W.heap.size 5 1 v (xs ++ ys).length (nums .u8 (xs ++ ys)) ∧ Below W.heap.size W w' := by
  have R1 := Lib.hid r1
  have R2 := Lib.hid r2
  have c0 : W.cell? ⟨g, 0, none⟩ = some (.slice A1 xs.length c1) := by simp [World.cell?, hg]
  have c1' : W.cell? ⟨g, 1, none⟩ = some (.slice A2 ys.length c2) := by simp [World.cell?, hg]
  have C0 := Lib.hid c0
  have C1 := Lib.hid c1'
  clear r1 r2 hg c0 c1'
  go_enter Try.func38, Try.ntmps38
  go_wp2_with fail
  go_loopw [3, 11] (fun n i wr => ∃ k : Nat, k ≤ 2 ∧ i = .int .i64 k ∧ n = .int .i64 (cc2 xs ys k).length ∧ wr = W) (fun _ i _ => 2 - (intOf i).toNat)
  case atStart => exact ⟨0, by omega, rfl, rfl, rfl⟩
  case round =>
    obtain ⟨k, hk, rfl, rfl, rfl⟩ := hrel
    have h3 : k = 0 ∨ k = 1 ∨ k = 2 := by omega
    rcases h3 with rfl | rfl | rfl
    · have q0 := C0.out
      show Code.wp _ _ _ _ _
      simp only [show (cc2 xs ys 0).length = 0 from rfl]
      have hw : wrap64 (xs.length : Int) = xs.length := by unfold wrap64; omega
      have hng : ¬ (xs.length : Int) < 0 := by omega
      go_wp2_with fail
      go_roundw
      case rel => exact ⟨1, by omega, by go_num, rfl, trivial⟩
      case measure => simp [intOf]
    · have q0 := C1.out
      simp only [show (cc2 xs ys 1).length = xs.length from rfl]
      have hw : wrap64 ((xs.length : Int) + ys.length) = xs.length + ys.length := by unfold wrap64; omega
      have hng : ¬ ((xs.length : Int) + ys.length) < 0 := by omega
      go_wp2_with fail
      go_roundw
      case rel => exact ⟨2, by omega, by go_num, by show _ = Value.int .i64 (((xs ++ ys).length : Nat) : Int); simp, trivial⟩
      case measure => simp [intOf]
    · simp only [show (cc2 xs ys 2).length = (xs ++ ys).length from rfl]
      obtain ⟨nn, hnn⟩ : ∃ nn, (xs ++ ys).length = nn := ⟨_, rfl⟩
      rw [hnn]
      have hn1 : nn ≤ 1000000 := by rw [← hnn]; simp; omega
      obtain ⟨wl, hwl⟩ : ∃ wl, wl = wr := ⟨wr, rfl⟩
      have HWL := Lib.hid hwl
      rw [← hwl] at R1 R2 C0 C1 ⊢
      clear hwl
      have HGR := Lib.hid (Grow_nil wl nn hn1)
      go_wp2_with fail
      refine HGR.out.mono ?_
      rintro e w2 ⟨v, rfl, hv, hb2⟩
      have HI2 : Hid (w2.ownsRow wl.heap.size 5 1 v (cc2 xs ys 0).length (nums .u8 (cc2 xs ys 0)) ∧ Below wl.heap.size wl w2) := Lib.hid ⟨hv, hb2⟩
      clear hv hb2 HGR
      go_wp2_with fail
      go_loopw [6, 27] (fun v i wr => ∃ k : Nat, k ≤ 2 ∧ i = .int .i64 k ∧ Hid (wr.ownsRow wl.heap.size 5 1 v (cc2 xs ys k).length (nums .u8 (cc2 xs ys k)) ∧ Below wl.heap.size wl wr)) (fun _ i _ => 2 - (intOf i).toNat)
      case atStart => exact ⟨0, by omega, rfl, HI2⟩
      case round =>
        obtain ⟨k, hk, rfl, hI⟩ := hrel
        obtain ⟨hown, hbr⟩ := hI.out
        obtain ⟨i0, hi0, hz0, hz1, hz2⟩ := info_parts info_u8
        have h3 : k = 0 ∨ k = 1 ∨ k = 2 := by omega
        rcases h3 with rfl | rfl | rfl
        · have q0 := bkeep hbr C0.out
          obtain ⟨v', W', hrun, hown', hgr, _⟩ := app_gen (P := Try.prog) (t := 42) (ty := 42) (c := c1) Try.underlying42 hi0 hz0 hz1 hz2 rfl (by decide) hown (R1.out.below hbr) (nums_oneC .u8 xs) (by simp [cc2, maxLen]; omega) (by simp [cc2]; omega) hbr.size
          have hb' : Below wl.heap.size wl W' := hbr.grown hgr hbr.size fun k e => (World.ownsRow.lt hown k e).1
          have HI : Hid (W'.ownsRow wl.heap.size 5 1 v' (cc2 xs ys 1).length (nums .u8 (cc2 xs ys 1)) ∧ Below wl.heap.size wl W') := Lib.hid ⟨by simpa [cc2, nums] using hown', hb'⟩
          clear hown hown' hgr hb' hI
          go_wp2_with (at_builtin; refine Lib.wpList_append_run _ rfl (.tmp 31) (.tmp 32) _ _ rfl _ _ rfl rfl _ _ hrun ?_)
          go_roundw
          case rel => exact ⟨1, by omega, by go_num, HI⟩
          case measure => simp [intOf]
        · have q0 := bkeep hbr C1.out
          obtain ⟨v', W', hrun, hown', hgr, _⟩ := app_gen (P := Try.prog) (t := 42) (ty := 42) (c := c2) Try.underlying42 hi0 hz0 hz1 hz2 rfl (by decide) hown (R2.out.below hbr) (nums_oneC .u8 ys) (by simp [cc2, maxLen]; omega) (by simp [cc2]; omega) hbr.size
          have hb' : Below wl.heap.size wl W' := hbr.grown hgr hbr.size fun k e => (World.ownsRow.lt hown k e).1
          have HI : Hid (W'.ownsRow wl.heap.size 5 1 v' (cc2 xs ys 2).length (nums .u8 (cc2 xs ys 2)) ∧ Below wl.heap.size wl W') := Lib.hid ⟨by simpa [cc2, nums] using hown', hb'⟩
          clear hown hown' hgr hb' hI
          go_wp2_with (at_builtin; refine Lib.wpList_append_run _ rfl (.tmp 31) (.tmp 32) _ _ rfl _ _ rfl rfl _ _ hrun ?_)
          go_roundw
          case rel => exact ⟨2, by omega, by go_num, HI⟩
          case measure => simp [intOf]
        · clear hi0 hz0 hz1 hz2
          go_wp2_with fail
          go_ret
          exact ⟨_, rfl, by rw [← HWL.out]; exact hown, by rw [← HWL.out]; exact hbr⟩
end Go.Proofs.Ytidojcogojchpaa

/- mem's laws: MemPieces, in plain words. -/
set_option linter.unusedVariables false
set_option linter.unusedSimpArgs false
namespace Go.Proofs.Ytidojcogojchpaa
open Go.RowKit Go.Shelf

theorem firstBad_bad {A : PM} {need at_ n c : Int} (h : firstBad A need at_ n = some c) : badAt A need at_ n c := by
  unfold firstBad at h
  split at h
  · rename_i hx
    injection h with h
    rw [← h]
    exact Classical.choose_spec hx
  · cases h
theorem rd_cases (A : PM) (need at_ n : Int) (h0 : 0 ≤ n) (h1 : n ≤ 65536) : (allOk A need at_ n) ∨ ∃ c, badAt A need at_ n c := by
  cases h : firstBad A need at_ n with
  | none => exact .inl (firstBad_all h)
  | some c => exact .inr ⟨c, firstBad_bad h⟩
/-- Where the second part begins. -/
def atN (at_ n : Int) : Int := (at_ + n) % 4294967296
theorem atN_rng (at_ n : Int) : 0 ≤ atN at_ n ∧ atN at_ n < 4294967296 := by unfold atN; omega
theorem pcAt_atN (at_ n i : Int) : pcAt (atN at_ n) i = pcAt at_ (n + i) := by unfold pcAt atN; omega
section
variable {A : PM} {need at_ : Int} {n m : Nat}
theorem all_split : allOk A need at_ ((n + m : Nat) : Int) ↔ allOk A need at_ n ∧ allOk A need (atN at_ n) m := by
  constructor
  · intro h
    refine ⟨fun i i0 i1 => h i i0 (by omega), fun i i0 i1 => ?_⟩
    rw [pcAt_atN]
    exact h (n + i) (by omega) (by omega)
  · rintro ⟨h1, h2⟩ i i0 i1
    by_cases hi : i < n
    · exact h1 i i0 hi
    · have := h2 (i - n) (by omega) (by omega)
      rw [pcAt_atN] at this
      rwa [show (n : Int) + (i - n) = i by omega] at this
theorem bad_first {c : Int} (h : badAt A need at_ n c) : badAt A need at_ ((n + m : Nat) : Int) c := ⟨h.1, by have := h.2.1; omega, h.2.2⟩
theorem bad_second {c : Int} (h1 : allOk A need at_ n) (h : badAt A need (atN at_ n) m c) : badAt A need at_ ((n + m : Nat) : Int) (n + c) := by
  obtain ⟨a1, a2, a3, a4⟩ := h
  rw [pcAt_atN] at a3
  refine ⟨by omega, by omega, a3, fun i i0 i1 => ?_⟩
  by_cases hi : i < n
  · exact h1 i i0 hi
  · have := a4 (i - n) (by omega) (by omega)
    rw [pcAt_atN] at this
    rwa [show (n : Int) + (i - n) = i by omega] at this
theorem bytes_split : bytesN A at_ (n + m) = bytesN A at_ n ++ bytesN A (atN at_ n) m := by
  unfold bytesN
  rw [List.range_add, List.map_append, List.map_map]
  congr 1
  refine List.map_congr_left fun i _ => ?_
  simp only [Function.comp, pcAt_atN]
  congr 2
/-- Reading in two parts. -/
inductive Two (A : PM) (need at_ : Int) (n m : Nat) : Prop
  | no1 : rdB A need at_ n = false → rdB A need at_ ((n + m : Nat) : Int) = false → rdA A need at_ ((n + m : Nat) : Int) = rdA A need at_ n → Two A need at_ n m
  | no2 : rdB A need at_ n = true → rdB A need (atN at_ n) m = false → rdB A need at_ ((n + m : Nat) : Int) = false → rdA A need at_ ((n + m : Nat) : Int) = rdA A need (atN at_ n) m → Two A need at_ n m
  | yes : rdB A need at_ n = true → rdB A need (atN at_ n) m = true → rdB A need at_ ((n + m : Nat) : Int) = true → rdL A need at_ ((n + m : Nat) : Int) = rdL A need at_ n ++ rdL A need (atN at_ n) m → Two A need at_ n m
theorem two_rd (h : n + m ≤ 65536) : Two A need at_ n m := by
  rcases rd_cases A need at_ n (by omega) (by omega) with h1 | ⟨c, h1⟩
  · obtain ⟨a1, a2, a3⟩ := rd_ok (by omega) (by omega) h1
    rcases rd_cases A need (atN at_ n) m (by omega) (by omega) with h2 | ⟨c, h2⟩
    · obtain ⟨b1, b2, b3⟩ := rd_ok (by omega) (by omega) h2
      obtain ⟨d1, d2, d3⟩ := rd_ok (n := ((n + m : Nat) : Int)) (by omega) (by omega) (all_split.2 ⟨h1, h2⟩)
      refine .yes a2 b2 d2 ?_
      rw [d3, a3, b3, Int.toNat_natCast, Int.toNat_natCast, Int.toNat_natCast]
      exact bytes_split
    · obtain ⟨b1, b2, b3⟩ := rd_bad (by omega) (by omega) h2
      obtain ⟨d1, d2, d3⟩ := rd_bad (n := ((n + m : Nat) : Int)) (by omega) (by omega) (bad_second h1 h2)
      exact .no2 a2 b2 d2 (by rw [d1, b1, pcAt_atN])
  · obtain ⟨a1, a2, a3⟩ := rd_bad (by omega) (by omega) h1
    obtain ⟨d1, d2, d3⟩ := rd_bad (n := ((n + m : Nat) : Int)) (by omega) (by omega) (bad_first (m := m) h1)
    exact .no1 a2 d2 (by rw [d1, a1])
/-- Writing in two parts. -/
theorem wr_eq_rd (h : n ≤ 65536) : wrB A need at_ n = rdB A need at_ n := by
  unfold wrB rdB
  rw [if_neg (by omega), if_neg (by omega)]
theorem okA_poke {bs : List Int} {k a : Int} : okA (A.poke at_ bs k) need a ↔ okA A need a := Iff.rfl
theorem wrM_ks (A : PM) (need at_ : Int) (bs : List Int) : (wrM A need at_ bs).ks = A.ks := by unfold wrM; split <;> rfl
theorem wrM_ok {bs : List Int} {a nd : Int} : okA (wrM A need at_ bs) nd a ↔ okA A nd a := by unfold wrM; split <;> exact Iff.rfl
theorem wrB_wrM {bs : List Int} {nd b : Int} {k : Nat} (hk : k ≤ 65536) : wrB (wrM A need at_ bs) nd b k = wrB A nd b k := by
  rcases rd_cases A nd b k (by omega) (by omega) with h | ⟨c, h⟩
  · rw [(wr_ok hk h).2, (wr_ok hk (A := wrM A need at_ bs) fun i i0 i1 => wrM_ok.2 (h i i0 i1)).2]
  · rw [(wr_bad hk h).2, (wr_bad hk (A := wrM A need at_ bs) (c := c) ⟨h.1, h.2.1, fun e => h.2.2.1 (wrM_ok.1 e), fun i i0 i1 => wrM_ok.2 (h.2.2.2 i i0 i1)⟩).2]
end
theorem gi_take (bs : List Int) (n j : Nat) (h : j < n) : gi (bs.take n) j = gi bs j := by simp [gi, List.getD_eq_getElem?_getD, h]
theorem gi_drop (bs : List Int) (n j : Nat) : gi (bs.drop n) j = gi bs (n + j) := by simp [gi, List.getD_eq_getElem?_getD]
theorem poke_two (A : PM) (at_ : Int) (bs : List Int) (n : Nat) (hn : n ≤ bs.length) (hl : bs.length ≤ 65536) (p : Int) :
    pokeB A at_ bs bs.length p = pokeB (A.poke at_ (bs.take n) n) (atN at_ n) (bs.drop n) ((bs.length - n : Nat) : Int) p := by
  refine list_gi (by rw [pokeB_len, pokeB_len]) fun j hj => ?_
  rw [pokeB_len] at hj
  rw [pokeB_gi _ _ _ _ _ _ hj, pokeB_gi _ _ _ _ _ _ hj]
  show _ = if _ then _ else gi (pokeB A at_ (bs.take n) n p) j
  rw [pokeB_gi _ _ _ _ _ _ hj]
  obtain ⟨d, hd⟩ : ∃ d : Int, (p * 256 + (j : Int) - at_) % 4294967296 = d := ⟨_, rfl⟩
  have hd0 : 0 ≤ d ∧ d < 4294967296 := by omega
  have he : (p * 256 + (j : Int) - atN at_ n) % 4294967296 = (d - n) % 4294967296 := by unfold atN; omega
  rw [hd, he]
  by_cases h1 : d < n
  · have e1 : (d - n) % 4294967296 = d - n + 4294967296 := by omega
    rw [if_pos (by omega), e1, if_neg (by omega), if_pos h1, gi_take _ _ _ (by omega)]
  · have e1 : (d - n) % 4294967296 = d - n := by omega
    rw [e1]
    by_cases h2 : d < bs.length
    · rw [if_pos h2, if_pos (by omega), gi_drop]
      congr 1
      omega
    · rw [if_neg h2, if_neg (by omega), if_neg h1]
theorem same_two (A : PM) (at_ : Int) (bs : List Int) (n : Nat) (hn : n ≤ bs.length) (hl : bs.length ≤ 65536) (h : wrB A 2 at_ bs.length = true) :
    sameM (wrM A 2 at_ bs) (wrM (wrM A 2 at_ (bs.take n)) 2 (atN at_ n) (bs.drop n)) = true := by
  have h' := (wr_true h).1
  rw [show bs.length = n + (bs.length - n) by omega] at h'
  obtain ⟨a1, a2⟩ := all_split.1 h'
  have l1 : (bs.take n).length = n := by simp; omega
  have l2 : (bs.drop n).length = bs.length - n := by simp
  have b1 : wrB A 2 at_ (bs.take n).length = true := by rw [l1]; exact (wr_ok (by omega) a1).2
  have b2 : wrB (wrM A 2 at_ (bs.take n)) 2 (atN at_ n) (bs.drop n).length = true := by rw [l2, wrB_wrM (by omega)]; exact (wr_ok (by omega) a2).2
  have e1 : wrM A 2 at_ bs = A.poke at_ bs bs.length := if_pos h
  have e2 : wrM A 2 at_ (bs.take n) = A.poke at_ (bs.take n) n := by rw [show ((n : Nat) : Int) = ((bs.take n).length : Int) by rw [l1]]; exact if_pos b1
  have e3 : wrM (wrM A 2 at_ (bs.take n)) 2 (atN at_ n) (bs.drop n) = (A.poke at_ (bs.take n) n).poke (atN at_ n) (bs.drop n) ((bs.length - n : Nat) : Int) := by
    have : wrM (wrM A 2 at_ (bs.take n)) 2 (atN at_ n) (bs.drop n) = (wrM A 2 at_ (bs.take n)).poke (atN at_ n) (bs.drop n) (bs.drop n).length := if_pos b2
    rw [this, e2, l2]
  rw [e3, e1]
  unfold sameM
  rw [show (A.poke at_ bs bs.length).ks = ((A.poke at_ (bs.take n) n).poke (atN at_ n) (bs.drop n) ((bs.length - n : Nat) : Int)).ks from rfl, decide_eq_true rfl, Bool.true_and, List.all_eq_true]
  intro p hp
  exact decide_eq_true ⟨rfl, poke_two A at_ bs n hn hl p⟩
theorem u64_nonneg (cut : Int) : 0 ≤ IntKind.u64.wrap cut := by unfold IntKind.wrap; simp [IntKind.signed, IntKind.bits]; exact Int.emod_nonneg _ (by decide)
theorem u32_small (n : Nat) (h : n ≤ 2000) : IntKind.u32.wrap (n : Int) = n := by unfold IntKind.wrap; simp [IntKind.signed, IntKind.bits]; omega
theorem u32_atN (at_ : Int) (n : Nat) : IntKind.u32.wrap (at_ + n) = atN at_ n := by unfold atN IntKind.wrap; simp [IntKind.signed, IntKind.bits]
theorem cut_mod (cut : Int) (l : Nat) : ∃ n : Nat, n ≤ l ∧ (IntKind.u64.wrap cut).tmod ((l : Int) + 1) = (n : Int) := by
  have h1 := Int.tmod_nonneg ((l : Int) + 1) (u64_nonneg cut)
  have h2 := Int.tmod_lt_of_pos (IntKind.u64.wrap cut) (show (0 : Int) < (l : Int) + 1 by omega)
  generalize (IntKind.u64.wrap cut).tmod ((l : Int) + 1) = x at h1 h2
  exact ⟨x.toNat, by omega, by omega⟩
end Go.Proofs.Ytidojcogojchpaa

/- mem's laws: MemPieces. -/
set_option linter.unusedVariables false
set_option linter.unusedSimpArgs false
namespace Go.Proofs.Ytidojcogojchpaa
open Go.RowKit Go.Shelf

set_option maxRecDepth 1000000 in
set_option maxHeartbeats 8000000 in
theorem pieces_law (A : Option Addr) (c : Nat) (ps : List PV) (at_ : Int) (D : Option Addr) (cd : Nat) (bs : List Int) (cut : Int) (w : World) (hp : PsIn w A c ps) (ha : 0 ≤ at_ ∧ at_ < 4294967296) (hb : BsIn w D cd bs) (hcut : -9223372036854775808 ≤ cut ∧ cut ≤ 9223372036854775807) :
    Calls Try.prog 8 #[.slice A ps.length c, .int .u32 at_, .slice D bs.length cd, .int .i64 cut] w fun e w' => e = .returned (.bool true) ∧ Below w.heap.size w w' := by
  have HP := Lib.hid hp
  have HBS := Lib.hid hb
  have hlen := hp.rd.le
  have hlb := hb.le
  have hcb := hb.cap
  clear hp hb
  go_enter Try.func8, Try.ntmps8
  go_wp2_with fail
  refine (sane_any w).mono ?_
  rintro e W1 ⟨rfl, hb1⟩
  have HB1 := Lib.hid hb1
  have HP1 := Lib.hid (HP.out.below hb1)
  clear hb1
  go_wp2_with fail
  refine (loaded_any W1 A c ps HP1.out.rd HP1.out.by_ HP1.out.u8).mono ?_
  rintro e W2 ⟨hb2, hres⟩
  have HB2 := Lib.hid (bvia HB1.out hb2 (Nat.le_refl _))
  have HI := Lib.hid (IsPages_any W2 A c ps (HP1.out.below hb2).rd)
  clear hb2
  rcases hres with ⟨⟨hl20, hisp⟩, mb, rfl, hld⟩ | ⟨hnot, rfl⟩
  · rw [hisp] at HI
    have hc20 : ¬ (ps.length : Int) > 20 := by omega
    have HPO := Lib.hid (psOk_of hisp HP1.out.u8 (by omega))
    have HM := Lib.hid hld.m1.1
    clear hisp hld
    by_cases hbl : bs.length ≤ 2000
    · have hcb2 : ¬ (bs.length : Int) > 2000 := by omega
      obtain ⟨n, hn, ht⟩ := cut_mod cut bs.length
      obtain ⟨m, hm⟩ : ∃ m, bs.length - n = m := ⟨_, rfl⟩
      have hw1 : wrap64 (n : Int) = n := by unfold wrap64; omega
      have HSUB : Hid ((bs.length : Int) - (n : Int) = m) := Lib.hid (by omega)
      have hw3 : IntKind.u32.wrap (n : Int) = n := u32_small n (by omega)
      have hw4 : IntKind.u32.wrap (at_ + n) = atN at_ n := u32_atN at_ n
      have hsl : n + m = bs.length := by omega
      have HSL := Lib.hid hsl
      have HT1 := Lib.hid (two_rd (A := ldM ps) (need := 1) (at_ := at_) (n := n) (m := m) (by omega))
      have HT2 := Lib.hid (two_rd (A := ldM ps) (need := 2) (at_ := at_) (n := n) (m := m) (by omega))
      have HNR := Lib.hid (atN_rng at_ n)
      clear hm hsl
      go_wp2_with fail
      refine (HM.out.Read at_ bs.length ha).mono ?_
      rintro e W3 ⟨⟨A3, c3, rfl, rd3, hc3, new3⟩, hb3, u3⟩
      have HM3 := Lib.hid (HM.out.below hb3)
      have HB3 := Lib.hid (bvia HB2.out hb3 (Nat.le_refl _))
      have R3 := Lib.hid rd3
      have U3 := Lib.hid u3
      clear rd3 hc3 new3 u3 hb3 ht
      go_wp2_with fail
      refine (HM3.out.Read at_ n ha).mono ?_
      rintro e W4 ⟨⟨A4, c4, rfl, rd4, hc4, new4⟩, hb4, u4⟩
      have HM4 := Lib.hid (HM3.out.below hb4)
      have HB4 := Lib.hid (bvia HB3.out hb4 (Nat.le_refl _))
      have R34 := Lib.hid (R3.out.below hb4)
      have R4 := Lib.hid rd4
      have C4 := Lib.hid hc4
      clear rd4 hc4 new4 u4 hb4 R3
      go_wp2_with fail
      rw [HSUB.out]
      refine (HM4.out.Read (atN at_ n) m HNR.out).mono ?_
      rintro e W5 ⟨⟨A5, c5, rfl, rd5, hc5, new5⟩, hb5, u5⟩
      have HM5 := Lib.hid (HM4.out.below hb5)
      have HB5 := Lib.hid (bvia HB4.out hb5 (Nat.le_refl _))
      have R35 := Lib.hid (R34.out.below hb5)
      have R45 := Lib.hid (R4.out.below hb5)
      have R5 := Lib.hid rd5
      have C5 := Lib.hid hc5
      clear rd5 hc5 new5 u5 hb5 R34 R4
      have HMS : Hid (M1 W1.heap.size W5 mb (ldM ps)) := HM5
      have hs1 : w.heap.size ≤ W1.heap.size := HB1.out.size
      have HL1 : Hid ((bs.take n).length = n) := Lib.hid (by simp; omega)
      have HL2 : Hid ((bs.drop n).length = m) := Lib.hid (by have := HSL.out; simp; omega)
      have hsh := fun W => slice_head D bs.length cd n (by omega) (by omega) W
      have hst := fun W => slice_tail D bs.length cd n (by omega) (by omega) W
      rw [Int.toNat_natCast] at hsh hst
      rw [show bs.length - n = m by have := HSL.out; omega] at hst
      have HSH := Lib.hid hsh
      have HST := Lib.hid hst
      clear hsh hst
      obtain ⟨a1, ha1⟩ : ∃ x, rdA (ldM ps) 1 at_ bs.length = x := ⟨_, rfl⟩
      obtain ⟨a2, ha2⟩ : ∃ x, rdA (ldM ps) 1 at_ n = x := ⟨_, rfl⟩
      obtain ⟨a3, ha3⟩ : ∃ x, rdA (ldM ps) 1 (atN at_ n) m = x := ⟨_, rfl⟩
      obtain ⟨l1, hl1⟩ : ∃ x, rdL (ldM ps) 1 at_ bs.length = x := ⟨_, rfl⟩
      obtain ⟨l2, hl2⟩ : ∃ x, rdL (ldM ps) 1 at_ n = x := ⟨_, rfl⟩
      obtain ⟨l3, hl3⟩ : ∃ x, rdL (ldM ps) 1 (atN at_ n) m = x := ⟨_, rfl⟩
      rw [hl1] at R35 U3
      rw [hl2] at R45 C4
      rw [hl3] at R5 C5
      rw [ha3, hl3]
      have hle2 := R45.out.le
      have hle3 := R5.out.le
      have hle1 := R35.out.le
      rw [ha1, ha2, hl1, hl2]
      have HA1 := Lib.hid ha1
      have HA2 := Lib.hid ha2
      have HA3 := Lib.hid ha3
      have HLL1 := Lib.hid hl1
      have HLL2 := Lib.hid hl2
      have HLL3 := Lib.hid hl3
      clear ha1 ha2 ha3 hl1 hl2 hl3
      rcases HT1.out with ⟨h1, h2, h3⟩ | ⟨h1, h2, h3, h4⟩ | ⟨h1, h2, h3, h4⟩
      · rw [HSL.out] at h2 h3
        obtain ⟨z0, hz0⟩ : ∃ z, rdB (ldM ps) 1 (atN at_ n) m = z := ⟨_, rfl⟩
        rw [HA1.out, HA2.out] at h3
        subst h3
        rw [h1, h2, hz0]
        clear h1 h2 hz0
        go_wp2_with fail
        refine HM5.out.Clone.mono ?_
        rintro e W20 ⟨kb, rfl, m20, hb20⟩
        have HM20 := Lib.hid m20.symm
        have HB20 := Lib.hid (HB5.out.trans (hb20.mono hs1))
        clear m20 hb20
        have hlt : w.heap.size ≤ W20.heap.size := HB20.out.size
        have HAD : Hid (0 < bs.length → ∀ ad, D = some ad → ad.block < W1.heap.size) := Lib.hid fun h0 ad e => by have := HBS.out.rd.old (by rw [Nat.mul_one]; exact h0) ad e; omega
        go_wp2_with fail
        refine (HM20.out.Write0 at_ bs D cd ha hcb ((HBS.out.below HB20.out).rd) HBS.out.u8 HAD.out).mono ?_
        rintro e W21 ⟨rfl, m21, hb21⟩
        have HM21 := Lib.hid m21.symm
        have HB21 := Lib.hid (HB20.out.trans (hb21.mono hs1))
        have HR21 := Lib.hid ((HBS.out.below HB21.out).rd)
        clear m21 hb21
        obtain ⟨z1, hz1⟩ : ∃ z, wrA (ldM ps) 2 at_ bs.length = z := ⟨_, rfl⟩
        rw [hz1]
        clear hz1
        have hRt : Rd W21 D n 1 (nums .u8 (bs.take n)) := by
          have h := HR21.out
          refine ⟨by simp; omega, by omega, fun j hj => ?_⟩
          have hj' : j < n := by simp at hj; omega
          obtain ⟨ad, e, hc⟩ := h.cell j (by simp; omega)
          exact ⟨ad, e, by rw [hc]; simp [nums]⟩
        have HW2 : Hid (Calls Try.prog 23 #[.pointer (some ⟨kb, 0, none⟩), .int .u32 at_, .slice D n cd] W21 fun e w' => e = .returned (.tuple #[.int .u32 (wrA (ldM ps) 2 at_ n), .bool (wrB (ldM ps) 2 at_ n)]) ∧ M2 W1.heap.size w' mb (wrM (ldM ps) 2 at_ bs) kb (wrM (ldM ps) 2 at_ (bs.take n)) ∧ Below W1.heap.size W21 w') := Lib.hid (by
          have h := HM21.out.Write0 at_ (bs.take n) D cd ha (by rw [HL1.out]; omega) (by rw [HL1.out]; exact hRt) (fun x hx => HBS.out.u8 x (List.mem_of_mem_take hx)) (fun h0 => HAD.out (by have := HL1.out; omega))
          rw [HL1.out] at h
          exact h)
        clear hRt
        have hsh := HSH.out
        have hst := HST.out
        go_wp2_with fail
        refine HW2.out.mono ?_
        rintro e W22 ⟨rfl, m22, hb22⟩
        have HM22 := Lib.hid m22
        have HB22 := Lib.hid (HB21.out.trans (hb22.mono hs1))
        have HR22 := Lib.hid ((HBS.out.below HB22.out).rd)
        clear m22 hb22
        obtain ⟨z2, hz2⟩ : ∃ z, wrA (ldM ps) 2 at_ n = z := ⟨_, rfl⟩
        rw [hz2]
        clear hz2
        have HW3 : Hid (Calls Try.prog 23 #[.pointer (some ⟨kb, 0, none⟩), .int .u32 (atN at_ n), .slice (tailA D cd n) m (cd - n)] W22 fun e w' => e = .returned (.tuple #[.int .u32 (wrA (wrM (ldM ps) 2 at_ (bs.take n)) 2 (atN at_ n) m), .bool (wrB (wrM (ldM ps) 2 at_ (bs.take n)) 2 (atN at_ n) m)]) ∧ M2 W1.heap.size w' mb (wrM (ldM ps) 2 at_ bs) kb (wrM (wrM (ldM ps) 2 at_ (bs.take n)) 2 (atN at_ n) (bs.drop n)) ∧ Below W1.heap.size W22 w') := Lib.hid (by
          have hRd := HR22.out.tailA (l := n) hcb hn
          have ed : (nums .u8 bs).drop n = nums .u8 (bs.drop n) := by simp [nums, List.map_drop]
          rw [ed, ← List.length_drop] at hRd
          have h := HM22.out.Write0 (atN at_ n) (bs.drop n) (tailA D cd n) (cd - n) HNR.out (by rw [List.length_drop]; omega) hRd (fun x hx => HBS.out.u8 x (List.mem_of_mem_drop hx)) (fun h0 ad e => by
            unfold tailA at e
            have h00 : 0 < bs.length := by have := HL2.out; rw [List.length_drop] at h0; omega
            split at e
            · exact HAD.out h00 ad e
            · cases hD : D with
              | none => rw [hD] at e; cases e
              | some a0 =>
                rw [hD] at e
                simp only [Option.map_some, Option.some.injEq] at e
                rw [← e, addr_add_block]
                exact HAD.out h00 a0 hD)
          rw [HL2.out] at h
          exact h)
        go_wp2_with fail
        refine HW3.out.mono ?_
        rintro e W23 ⟨rfl, m23, hb23⟩
        have HM23 := Lib.hid m23
        have HB23 := Lib.hid (HB22.out.trans (hb23.mono hs1))
        clear m23 hb23 hsh hst
        obtain ⟨z3, hz3⟩ : ∃ z, wrA (wrM (ldM ps) 2 at_ (bs.take n)) 2 (atN at_ n) m = z := ⟨_, rfl⟩
        rw [hz3]
        clear hz3
        have hmb : m ≤ 2000 := by have := HSL.out; omega
        rw [wrB_wrM (by omega), wr_eq_rd (n := bs.length) (by omega), wr_eq_rd (n := n) (by omega), wr_eq_rd (n := m) (by omega)]
        clear hmb
        rcases HT2.out with ⟨h1, h2, h3⟩ | ⟨h1, h2, h3, h4⟩ | ⟨h1, h2, h3, h4⟩
        · rw [HSL.out] at h2
          obtain ⟨z4, hz4⟩ : ∃ z, rdB (ldM ps) 2 (atN at_ n) m = z := ⟨_, rfl⟩
          rw [h1, h2, hz4]
          clear h1 h2 h3 hz4
          cases z4
          all_goals
            go_wp2_with fail
            go_ret
            exact ⟨rfl, HB23.out⟩
        · rw [HSL.out] at h3
          rw [h1, h2, h3]
          clear h1 h2 h3 h4
          go_wp2_with fail
          go_ret
          exact ⟨rfl, HB23.out⟩
        · rw [HSL.out] at h3
          rw [h1, h2, h3]
          have HSM := Lib.hid (same_two (ldM ps) at_ bs n hn (by omega) (by rw [wr_eq_rd (by omega)]; exact h3))
          clear h1 h2 h3 h4
          go_wp2_with fail
          refine (Same_M HM23.out.fst HM23.out.snd).mono ?_
          rintro e W24 ⟨rfl, hb24⟩
          rw [HSM.out]
          have HB24 := Lib.hid (bvia HB23.out hb24 (Nat.le_refl _))
          clear hb24
          go_wp2_with fail
          go_ret
          exact ⟨rfl, HB24.out⟩
      · rw [HSL.out] at h3 h4
        rw [HA1.out, HA3.out] at h4
        subst h4
        rw [h1, h2, h3]
        clear h1 h2 h3
        go_wp2_with fail
        refine HM5.out.Clone.mono ?_
        rintro e W20 ⟨kb, rfl, m20, hb20⟩
        have HM20 := Lib.hid m20.symm
        have HB20 := Lib.hid (HB5.out.trans (hb20.mono hs1))
        clear m20 hb20
        have hlt : w.heap.size ≤ W20.heap.size := HB20.out.size
        have HAD : Hid (0 < bs.length → ∀ ad, D = some ad → ad.block < W1.heap.size) := Lib.hid fun h0 ad e => by have := HBS.out.rd.old (by rw [Nat.mul_one]; exact h0) ad e; omega
        go_wp2_with fail
        refine (HM20.out.Write0 at_ bs D cd ha hcb ((HBS.out.below HB20.out).rd) HBS.out.u8 HAD.out).mono ?_
        rintro e W21 ⟨rfl, m21, hb21⟩
        have HM21 := Lib.hid m21.symm
        have HB21 := Lib.hid (HB20.out.trans (hb21.mono hs1))
        have HR21 := Lib.hid ((HBS.out.below HB21.out).rd)
        clear m21 hb21
        obtain ⟨z1, hz1⟩ : ∃ z, wrA (ldM ps) 2 at_ bs.length = z := ⟨_, rfl⟩
        rw [hz1]
        clear hz1
        have hRt : Rd W21 D n 1 (nums .u8 (bs.take n)) := by
          have h := HR21.out
          refine ⟨by simp; omega, by omega, fun j hj => ?_⟩
          have hj' : j < n := by simp at hj; omega
          obtain ⟨ad, e, hc⟩ := h.cell j (by simp; omega)
          exact ⟨ad, e, by rw [hc]; simp [nums]⟩
        have HW2 : Hid (Calls Try.prog 23 #[.pointer (some ⟨kb, 0, none⟩), .int .u32 at_, .slice D n cd] W21 fun e w' => e = .returned (.tuple #[.int .u32 (wrA (ldM ps) 2 at_ n), .bool (wrB (ldM ps) 2 at_ n)]) ∧ M2 W1.heap.size w' mb (wrM (ldM ps) 2 at_ bs) kb (wrM (ldM ps) 2 at_ (bs.take n)) ∧ Below W1.heap.size W21 w') := Lib.hid (by
          have h := HM21.out.Write0 at_ (bs.take n) D cd ha (by rw [HL1.out]; omega) (by rw [HL1.out]; exact hRt) (fun x hx => HBS.out.u8 x (List.mem_of_mem_take hx)) (fun h0 => HAD.out (by have := HL1.out; omega))
          rw [HL1.out] at h
          exact h)
        clear hRt
        have hsh := HSH.out
        have hst := HST.out
        go_wp2_with fail
        refine HW2.out.mono ?_
        rintro e W22 ⟨rfl, m22, hb22⟩
        have HM22 := Lib.hid m22
        have HB22 := Lib.hid (HB21.out.trans (hb22.mono hs1))
        have HR22 := Lib.hid ((HBS.out.below HB22.out).rd)
        clear m22 hb22
        obtain ⟨z2, hz2⟩ : ∃ z, wrA (ldM ps) 2 at_ n = z := ⟨_, rfl⟩
        rw [hz2]
        clear hz2
        have HW3 : Hid (Calls Try.prog 23 #[.pointer (some ⟨kb, 0, none⟩), .int .u32 (atN at_ n), .slice (tailA D cd n) m (cd - n)] W22 fun e w' => e = .returned (.tuple #[.int .u32 (wrA (wrM (ldM ps) 2 at_ (bs.take n)) 2 (atN at_ n) m), .bool (wrB (wrM (ldM ps) 2 at_ (bs.take n)) 2 (atN at_ n) m)]) ∧ M2 W1.heap.size w' mb (wrM (ldM ps) 2 at_ bs) kb (wrM (wrM (ldM ps) 2 at_ (bs.take n)) 2 (atN at_ n) (bs.drop n)) ∧ Below W1.heap.size W22 w') := Lib.hid (by
          have hRd := HR22.out.tailA (l := n) hcb hn
          have ed : (nums .u8 bs).drop n = nums .u8 (bs.drop n) := by simp [nums, List.map_drop]
          rw [ed, ← List.length_drop] at hRd
          have h := HM22.out.Write0 (atN at_ n) (bs.drop n) (tailA D cd n) (cd - n) HNR.out (by rw [List.length_drop]; omega) hRd (fun x hx => HBS.out.u8 x (List.mem_of_mem_drop hx)) (fun h0 ad e => by
            unfold tailA at e
            have h00 : 0 < bs.length := by have := HL2.out; rw [List.length_drop] at h0; omega
            split at e
            · exact HAD.out h00 ad e
            · cases hD : D with
              | none => rw [hD] at e; cases e
              | some a0 =>
                rw [hD] at e
                simp only [Option.map_some, Option.some.injEq] at e
                rw [← e, addr_add_block]
                exact HAD.out h00 a0 hD)
          rw [HL2.out] at h
          exact h)
        go_wp2_with fail
        refine HW3.out.mono ?_
        rintro e W23 ⟨rfl, m23, hb23⟩
        have HM23 := Lib.hid m23
        have HB23 := Lib.hid (HB22.out.trans (hb23.mono hs1))
        clear m23 hb23 hsh hst
        obtain ⟨z3, hz3⟩ : ∃ z, wrA (wrM (ldM ps) 2 at_ (bs.take n)) 2 (atN at_ n) m = z := ⟨_, rfl⟩
        rw [hz3]
        clear hz3
        have hmb : m ≤ 2000 := by have := HSL.out; omega
        rw [wrB_wrM (by omega), wr_eq_rd (n := bs.length) (by omega), wr_eq_rd (n := n) (by omega), wr_eq_rd (n := m) (by omega)]
        clear hmb
        rcases HT2.out with ⟨h1, h2, h3⟩ | ⟨h1, h2, h3, h4⟩ | ⟨h1, h2, h3, h4⟩
        · rw [HSL.out] at h2
          obtain ⟨z4, hz4⟩ : ∃ z, rdB (ldM ps) 2 (atN at_ n) m = z := ⟨_, rfl⟩
          rw [h1, h2, hz4]
          clear h1 h2 h3 hz4
          cases z4
          all_goals
            go_wp2_with fail
            go_ret
            exact ⟨rfl, HB23.out⟩
        · rw [HSL.out] at h3
          rw [h1, h2, h3]
          clear h1 h2 h3 h4
          go_wp2_with fail
          go_ret
          exact ⟨rfl, HB23.out⟩
        · rw [HSL.out] at h3
          rw [h1, h2, h3]
          have HSM := Lib.hid (same_two (ldM ps) at_ bs n hn (by omega) (by rw [wr_eq_rd (by omega)]; exact h3))
          clear h1 h2 h3 h4
          go_wp2_with fail
          refine (Same_M HM23.out.fst HM23.out.snd).mono ?_
          rintro e W24 ⟨rfl, hb24⟩
          rw [HSM.out]
          have HB24 := Lib.hid (bvia HB23.out hb24 (Nat.le_refl _))
          clear hb24
          go_wp2_with fail
          go_ret
          exact ⟨rfl, HB24.out⟩
      · rw [HSL.out] at h3 h4
        rw [HLL1.out, HLL2.out, HLL3.out] at h4
        subst h4
        rw [h1, h2, h3]
        clear h1 h2 h3
        obtain ⟨W6, hW6⟩ : ∃ W6, W5.alloc (.cells #[.slice A4 l2.length c4, .slice A5 l3.length c5] 42) = W6 := ⟨_, rfl⟩
        have hb6 : Below W5.heap.size W5 W6 := by rw [← hW6]; exact balloc _ _
        have h6 : W6.heap[W5.heap.size]? = some (.cells #[.slice A4 l2.length c4, .slice A5 l3.length c5] 42 (0, 0)) := by rw [← hW6]; exact heap_alloc_new _ _
        have hlen3 : l2.length ≤ 100000 ∧ l3.length ≤ 100000 := by
          have e2 := HLL2.out
          have e3 := HLL3.out
          have e4 := HSL.out
          unfold rdL at e2 e3
          constructor
          · rw [← e2]; split
            · rw [bytesN_len]; omega
            · simp
          · rw [← e3]; split
            · rw [bytesN_len]; omega
            · simp
        have HCC := Lib.hid (Concat2 W6 W5.heap.size A4 A5 l2 l3 c4 c5 h6 (R45.out.below hb6) (R5.out.below hb6) hlen3.1 hlen3.2 C4.out C5.out)
        have HM6 := Lib.hid (HM5.out.below hb6)
        have HB6 := Lib.hid (bvia HB5.out hb6 (Nat.le_refl _))
        have R36 := Lib.hid (R35.out.below hb6)
        clear hb6 h6
        go_wp2_with fail
        refine HCC.out.mono ?_
        rintro e W7 ⟨v, rfl, hrow, hb7⟩
        obtain ⟨A7, c7, rfl, rd7⟩ := own_rd hrow
        have HM7 := Lib.hid (HM6.out.below hb7)
        have HB7 := Lib.hid (bvia HB6.out hb7 (Nat.le_refl _))
        have HEQ := Lib.hid (Equal_bytes W7 A3 A7 (l2 ++ l3) (l2 ++ l3) c3 c7 (R36.out.below hb7) rd7 U3.out U3.out)
        rw [show decide (l2 ++ l3 = l2 ++ l3) = true from decide_eq_true rfl, List.length_append] at HEQ
        clear hrow rd7 hb7 hW6 HCC
        go_wp2_with fail
        refine HEQ.out.mono ?_
        rintro e W8 ⟨rfl, rfl⟩
        clear HEQ
        go_wp2_with fail
        refine HM7.out.Clone.mono ?_
        rintro e W20 ⟨kb, rfl, m20, hb20⟩
        have HM20 := Lib.hid m20.symm
        have HB20 := Lib.hid (HB7.out.trans (hb20.mono hs1))
        clear m20 hb20
        have hlt : w.heap.size ≤ W20.heap.size := HB20.out.size
        have HAD : Hid (0 < bs.length → ∀ ad, D = some ad → ad.block < W1.heap.size) := Lib.hid fun h0 ad e => by have := HBS.out.rd.old (by rw [Nat.mul_one]; exact h0) ad e; omega
        go_wp2_with fail
        refine (HM20.out.Write0 at_ bs D cd ha hcb ((HBS.out.below HB20.out).rd) HBS.out.u8 HAD.out).mono ?_
        rintro e W21 ⟨rfl, m21, hb21⟩
        have HM21 := Lib.hid m21.symm
        have HB21 := Lib.hid (HB20.out.trans (hb21.mono hs1))
        have HR21 := Lib.hid ((HBS.out.below HB21.out).rd)
        clear m21 hb21
        obtain ⟨z1, hz1⟩ : ∃ z, wrA (ldM ps) 2 at_ bs.length = z := ⟨_, rfl⟩
        rw [hz1]
        clear hz1
        have hRt : Rd W21 D n 1 (nums .u8 (bs.take n)) := by
          have h := HR21.out
          refine ⟨by simp; omega, by omega, fun j hj => ?_⟩
          have hj' : j < n := by simp at hj; omega
          obtain ⟨ad, e, hc⟩ := h.cell j (by simp; omega)
          exact ⟨ad, e, by rw [hc]; simp [nums]⟩
        have HW2 : Hid (Calls Try.prog 23 #[.pointer (some ⟨kb, 0, none⟩), .int .u32 at_, .slice D n cd] W21 fun e w' => e = .returned (.tuple #[.int .u32 (wrA (ldM ps) 2 at_ n), .bool (wrB (ldM ps) 2 at_ n)]) ∧ M2 W1.heap.size w' mb (wrM (ldM ps) 2 at_ bs) kb (wrM (ldM ps) 2 at_ (bs.take n)) ∧ Below W1.heap.size W21 w') := Lib.hid (by
          have h := HM21.out.Write0 at_ (bs.take n) D cd ha (by rw [HL1.out]; omega) (by rw [HL1.out]; exact hRt) (fun x hx => HBS.out.u8 x (List.mem_of_mem_take hx)) (fun h0 => HAD.out (by have := HL1.out; omega))
          rw [HL1.out] at h
          exact h)
        clear hRt
        have hsh := HSH.out
        have hst := HST.out
        go_wp2_with fail
        refine HW2.out.mono ?_
        rintro e W22 ⟨rfl, m22, hb22⟩
        have HM22 := Lib.hid m22
        have HB22 := Lib.hid (HB21.out.trans (hb22.mono hs1))
        have HR22 := Lib.hid ((HBS.out.below HB22.out).rd)
        clear m22 hb22
        obtain ⟨z2, hz2⟩ : ∃ z, wrA (ldM ps) 2 at_ n = z := ⟨_, rfl⟩
        rw [hz2]
        clear hz2
        have HW3 : Hid (Calls Try.prog 23 #[.pointer (some ⟨kb, 0, none⟩), .int .u32 (atN at_ n), .slice (tailA D cd n) m (cd - n)] W22 fun e w' => e = .returned (.tuple #[.int .u32 (wrA (wrM (ldM ps) 2 at_ (bs.take n)) 2 (atN at_ n) m), .bool (wrB (wrM (ldM ps) 2 at_ (bs.take n)) 2 (atN at_ n) m)]) ∧ M2 W1.heap.size w' mb (wrM (ldM ps) 2 at_ bs) kb (wrM (wrM (ldM ps) 2 at_ (bs.take n)) 2 (atN at_ n) (bs.drop n)) ∧ Below W1.heap.size W22 w') := Lib.hid (by
          have hRd := HR22.out.tailA (l := n) hcb hn
          have ed : (nums .u8 bs).drop n = nums .u8 (bs.drop n) := by simp [nums, List.map_drop]
          rw [ed, ← List.length_drop] at hRd
          have h := HM22.out.Write0 (atN at_ n) (bs.drop n) (tailA D cd n) (cd - n) HNR.out (by rw [List.length_drop]; omega) hRd (fun x hx => HBS.out.u8 x (List.mem_of_mem_drop hx)) (fun h0 ad e => by
            unfold tailA at e
            have h00 : 0 < bs.length := by have := HL2.out; rw [List.length_drop] at h0; omega
            split at e
            · exact HAD.out h00 ad e
            · cases hD : D with
              | none => rw [hD] at e; cases e
              | some a0 =>
                rw [hD] at e
                simp only [Option.map_some, Option.some.injEq] at e
                rw [← e, addr_add_block]
                exact HAD.out h00 a0 hD)
          rw [HL2.out] at h
          exact h)
        go_wp2_with fail
        refine HW3.out.mono ?_
        rintro e W23 ⟨rfl, m23, hb23⟩
        have HM23 := Lib.hid m23
        have HB23 := Lib.hid (HB22.out.trans (hb23.mono hs1))
        clear m23 hb23 hsh hst
        obtain ⟨z3, hz3⟩ : ∃ z, wrA (wrM (ldM ps) 2 at_ (bs.take n)) 2 (atN at_ n) m = z := ⟨_, rfl⟩
        rw [hz3]
        clear hz3
        have hmb : m ≤ 2000 := by have := HSL.out; omega
        rw [wrB_wrM (by omega), wr_eq_rd (n := bs.length) (by omega), wr_eq_rd (n := n) (by omega), wr_eq_rd (n := m) (by omega)]
        clear hmb
        rcases HT2.out with ⟨h1, h2, h3⟩ | ⟨h1, h2, h3, h4⟩ | ⟨h1, h2, h3, h4⟩
        · rw [HSL.out] at h2
          obtain ⟨z4, hz4⟩ : ∃ z, rdB (ldM ps) 2 (atN at_ n) m = z := ⟨_, rfl⟩
          rw [h1, h2, hz4]
          clear h1 h2 h3 hz4
          cases z4
          all_goals
            go_wp2_with fail
            go_ret
            exact ⟨rfl, HB23.out⟩
        · rw [HSL.out] at h3
          rw [h1, h2, h3]
          clear h1 h2 h3 h4
          go_wp2_with fail
          go_ret
          exact ⟨rfl, HB23.out⟩
        · rw [HSL.out] at h3
          rw [h1, h2, h3]
          have HSM := Lib.hid (same_two (ldM ps) at_ bs n hn (by omega) (by rw [wr_eq_rd (by omega)]; exact h3))
          clear h1 h2 h3 h4
          go_wp2_with fail
          refine (Same_M HM23.out.fst HM23.out.snd).mono ?_
          rintro e W24 ⟨rfl, hb24⟩
          rw [HSM.out]
          have HB24 := Lib.hid (bvia HB23.out hb24 (Nat.le_refl _))
          clear hb24
          go_wp2_with fail
          go_ret
          exact ⟨rfl, HB24.out⟩
    · have hcb2 : (bs.length : Int) > 2000 := by omega
      go_wp2_with fail
      refine HI.out.mono ?_
      rintro e W3 ⟨rfl, hb3⟩
      have HB3 := Lib.hid (bvia HB2.out hb3 (Nat.le_refl _))
      clear hb3
      go_wp2_with fail
      go_ret
      exact ⟨rfl, HB3.out⟩
  · cases hisp : isP ps with
    | false =>
      rw [hisp] at HI
      clear hisp hnot
      go_wp2_with fail
      refine HI.out.mono ?_
      rintro e W3 ⟨rfl, hb3⟩
      have HB3 := Lib.hid (bvia HB2.out hb3 (Nat.le_refl _))
      clear hb3
      go_wp2_with fail
      go_ret
      exact ⟨rfl, HB3.out⟩
    | true =>
      have hc20 : (ps.length : Int) > 20 := by
        rcases Nat.lt_or_ge 20 ps.length with h | h
        · omega
        · exact absurd ⟨h, hisp⟩ hnot
      rw [hisp] at HI
      clear hisp hnot
      go_wp2_with fail
      refine HI.out.mono ?_
      rintro e W3 ⟨rfl, hb3⟩
      have HB3 := Lib.hid (bvia HB2.out hb3 (Nat.le_refl _))
      clear hb3
      go_wp2_with fail
      go_ret
      exact ⟨rfl, HB3.out⟩
end Go.Proofs.Ytidojcogojchpaa
