/- mem's laws: MemWhole. -/
import Derived.Test.YtidojcogojchpaaM04
set_option linter.unusedVariables false
set_option linter.unusedSimpArgs false
namespace Go.Proofs.Ytidojcogojchpaa
open Go.RowKit Go.Shelf

/-- What was poked is read. -/
theorem bytesN_poke (A : PM) (at_ : Int) (bs : List Int) (h0 : 0 ≤ at_ ∧ at_ < 4294967296) (hl : bs.length ≤ 65536) : bytesN (A.poke at_ bs bs.length) at_ bs.length = bs := by
  refine list_gi (bytesN_len _ _ _) fun j hj => ?_
  rw [bytesN_len] at hj
  have hm0 := Int.emod_nonneg (pcAt at_ (j : Int)) (show (256 : Int) ≠ 0 by omega)
  have hm1 := Int.emod_lt_of_pos (pcAt at_ (j : Int)) (show (0 : Int) < 256 by omega)
  have e1 : gi (bytesN (A.poke at_ bs bs.length) at_ bs.length) j = byteAt (A.poke at_ bs bs.length) (pcAt at_ (j : Int)) := by
    rw [gi_get _ _ (by rw [bytesN_len]; exact hj)]
    simp [bytesN]
  rw [e1]
  unfold byteAt
  show gi (pokeB A at_ bs bs.length (pcAt at_ (j : Int) / 256)) _ = _
  rw [pokeB_gi _ _ _ _ _ _ (by omega)]
  have e2 : (pcAt at_ (j : Int) / 256 * 256 + ((pcAt at_ (j : Int) % 256).toNat : Int) - at_) % 4294967296 = (j : Int) := by
    rw [Int.toNat_of_nonneg hm0]
    unfold pcAt
    omega
  rw [e2, if_pos (by omega)]
  simp
theorem wr_true {A : PM} {need at_ : Int} {n : Nat} (h : wrB A need at_ n = true) : allOk A need at_ n ∧ n ≤ 65536 := by
  unfold wrB at h
  split at h
  · cases h
  · exact ⟨firstBad_all (by simpa using h), by omega⟩
theorem bits_zero (x : Int) (h : 0 ≤ x ∧ x ≤ 7) : bits .and .i64 x 0 = 0 := by
  have : x = 0 ∨ x = 1 ∨ x = 2 ∨ x = 3 ∨ x = 4 ∨ x = 5 ∨ x = 6 ∨ x = 7 := by omega
  rcases this with rfl | rfl | rfl | rfl | rfl | rfl | rfl | rfl <;> rfl
theorem peek_poked {A : PM} {at_ need : Int} {bs : List Int} (h0 : 0 ≤ at_ ∧ at_ < 4294967296) (hr : ∀ n ∈ A.ks, 0 ≤ (A.pg n).r ∧ (A.pg n).r ≤ 7) (h : wrB A need at_ bs.length = true) :
    rdB (wrM A need at_ bs) 0 at_ bs.length = true ∧ rdL (wrM A need at_ bs) 0 at_ bs.length = bs := by
  obtain ⟨hok, hl⟩ := wr_true h
  have e : wrM A need at_ bs = A.poke at_ bs bs.length := by unfold wrM; exact if_pos h
  have hok' : allOk (A.poke at_ bs bs.length) 0 at_ bs.length := fun i i0 i1 => ⟨(hok i i0 i1).1, bits_zero _ (hr _ (hok i i0 i1).1)⟩
  obtain ⟨r1, r2, r3⟩ := rd_ok (A := A.poke at_ bs bs.length) (need := 0) (at_ := at_) (n := bs.length) (by omega) (by omega) hok'
  rw [e]
  refine ⟨r2, r3.trans ?_⟩
  rw [Int.toNat_natCast]
  exact bytesN_poke A at_ bs h0 hl
theorem M1.rights {B : Nat} {W : World} {b : Nat} {A : PM} (h : M1 B W b A) : ∀ n ∈ A.ks, 0 ≤ (A.pg n).r ∧ (A.pg n).r ≤ 7 := by
  obtain ⟨S, h1, _⟩ := h.ex
  exact fun n hn => (h1.mem.page n hn).2.r
theorem M1.right {B : Nat} {W : World} {b : Nat} {A : PM} (h : M1 B W b A) (at_ need : Int) (n : Nat) (ha : 0 ≤ at_ ∧ at_ < 4294967296) (hn : n ≤ 65536) (hnd : 0 ≤ need ∧ need ≤ 7) :
    Calls Try.prog 22 #[.pointer (some ⟨b, 0, none⟩), .int .u32 at_, .int .i64 n, .int .i64 need] W fun e w' => e = .returned (.tuple #[.int .u32 (wrA A need at_ n), .bool (wrB A need at_ n)]) ∧ Below W.heap.size W w' := by
  obtain ⟨S, h1, _⟩ := h.ex
  exact right_any W b S A at_ need n h1.mem ha hn hnd
theorem BytesAt.zero {W : World} {B : Nat} {ps : List PV} (h : BytesAt W B ps) : BytesAt W 0 ps := fun p hp => ⟨(h p hp).1, (h p hp).2.1, fun _ _ => Nat.zero_le _⟩
theorem sameP_of {ps qs : List PV} (h : ps.map PV.see = qs.map PV.see) : sameP ps qs = true := decide_eq_true h

set_option maxRecDepth 1000000 in
set_option maxHeartbeats 8000000 in
theorem whole_any (A : Option Addr) (c : Nat) (ps : List PV) (at_ : Int) (D : Option Addr) (cd : Nat) (bs : List Int) (w : World) (hp : PsIn w A c ps) (ha : 0 ≤ at_ ∧ at_ < 4294967296) (hb : BsIn w D cd bs) :
    Calls Try.prog 4 #[.slice A ps.length c, .int .u32 at_, .slice D bs.length cd] w fun e w' => e = .returned (.bool true) ∧ Below w.heap.size w w' := by
  have HP := Lib.hid hp
  have HBS := Lib.hid hb
  have hlen := hp.rd.le
  have hlb := hb.le
  have hcb := hb.cap
  clear hp hb
  go_enter Try.func4, Try.ntmps4
  go_wp2_with fail
  refine (sane_any w).mono ?_
  rintro e W1 ⟨rfl, hb1⟩
  have HB1 := Lib.hid hb1
  have HP1 := Lib.hid (HP.out.below hb1)
  clear hb1
  go_wp2_with fail
  refine (loaded_any W1 A c ps HP1.out.rd HP1.out.by_ HP1.out.u8).mono ?_
  rintro e W2 ⟨hb2, hres⟩
  have HB2 := Lib.hid (bvia HB1.out hb2 (Nat.le_refl _))
  have HP2 := Lib.hid (HP1.out.below hb2)
  have HI := Lib.hid (IsPages_any W2 A c ps (HP1.out.below hb2).rd)
  clear hb2
  rcases hres with ⟨⟨hl20, hisp⟩, mb, rfl, hld⟩ | ⟨hnot, rfl⟩
  · rw [hisp] at HI
    have hc20 : ¬ (ps.length : Int) > 20 := by omega
    have HPO := Lib.hid (psOk_of hisp HP1.out.u8 (by omega))
    have HM := Lib.hid hld.m1.1
    clear hisp hld
    by_cases hbl : bs.length ≤ 2000
    · have hcb2 : ¬ (bs.length : Int) > 2000 := by omega
      go_wp2_with fail
      refine (HM.out.right at_ 2 bs.length ha (by omega) (by omega)).mono ?_
      rintro e W3 ⟨rfl, hb3⟩
      have HM3 := Lib.hid (HM.out.below hb3)
      have HB3 := Lib.hid (bvia HB2.out hb3 (Nat.le_refl _))
      have hs3 : w.heap.size ≤ W1.heap.size := HB1.out.size
      clear hb3
      go_wp2_with fail
      refine (HM3.out.Write0 at_ bs D cd ha hcb ((HBS.out.below HB3.out).rd) HBS.out.u8 fun h0 ad e => by have := HBS.out.rd.old (by omega) ad e; omega).mono ?_
      rintro e W4 ⟨rfl, m4, hb4⟩
      have HM4 := Lib.hid m4
      have HB4 := Lib.hid (HB3.out.trans (hb4.mono hs3))
      obtain ⟨wa, hwa⟩ : ∃ x, wrA (ldM ps) 2 at_ bs.length = x := ⟨_, rfl⟩
      rw [hwa]
      cases hwb : wrB (ldM ps) 2 at_ bs.length with
      | false =>
        have HWM : Hid (wrM (ldM ps) 2 at_ bs = ldM ps) := Lib.hid (by unfold wrM; rw [hwb]; rfl)
        clear m4 hb4 hwa hwb
        go_wp2_with fail
        refine (HM4.out.Save).mono ?_
        rintro e W5 ⟨⟨A5, c5, qs, rfl, rd5, new5, see5, by5, u5⟩, hb5⟩
        rw [HWM.out, save_load ps HPO.out] at see5
        have HB5 := Lib.hid (bvia HB4.out hb5 (Nat.le_refl _))
        have HSP := Lib.hid (SamePages_any W5 A5 A c5 c qs ps rd5 ((HP.out.below HB5.out).rd) by5.zero (HP.out.below HB5.out).by_ u5 HP.out.u8)
        rw [sameP_of see5] at HSP
        clear rd5 new5 see5 by5 u5 hb5
        go_wp2_with fail
        refine HSP.out.mono ?_
        rintro e W6 ⟨rfl, hb6⟩
        have HB6 := Lib.hid (bvia HB5.out hb6 (Nat.le_refl _))
        clear hb6
        go_wp2_with fail
        go_ret
        exact ⟨rfl, HB6.out⟩
      | true =>
        have HPK := Lib.hid (peek_poked ha HM.out.rights hwb)
        clear m4 hb4 hwa hwb
        go_wp2_with fail
        refine (HM4.out.Peek at_ bs.length ha).mono ?_
        rintro e W5 ⟨⟨A5, c5, rfl, rd5, hc5, new5⟩, hb5, u5⟩
        have HB5 := Lib.hid (bvia HB4.out hb5 (Nat.le_refl _))
        rw [HPK.out.1, HPK.out.2]
        rw [HPK.out.2] at rd5
        have R5 := Lib.hid rd5
        clear rd5 hc5 new5 u5 hb5
        obtain ⟨ra, hra⟩ : ∃ x, rdA (wrM (ldM ps) 2 at_ bs) 0 at_ bs.length = x := ⟨_, rfl⟩
        rw [hra]
        clear hra
        go_wp2_with fail
        refine (Equal_bytes W5 A5 D bs bs c5 cd R5.out ((HBS.out.below HB5.out).rd) HBS.out.u8 HBS.out.u8).mono ?_
        rintro e W6 ⟨rfl, rfl⟩
        rw [show decide (bs = bs) = true from decide_eq_true rfl]
        go_wp2_with fail
        go_ret
        exact ⟨rfl, HB5.out⟩
    · have hcb2 : (bs.length : Int) > 2000 := by omega
      go_wp2_with fail
      refine HI.out.mono ?_
      rintro e W3 ⟨rfl, hb3⟩
      have HB3 := Lib.hid (bvia HB2.out hb3 (Nat.le_refl _))
      clear hb3
      go_wp2_with fail
      go_ret
      exact ⟨rfl, HB3.out⟩
  · cases hisp : isP ps with
    | false =>
      rw [hisp] at HI
      clear hisp hnot
      go_wp2_with fail
      refine HI.out.mono ?_
      rintro e W3 ⟨rfl, hb3⟩
      have HB3 := Lib.hid (bvia HB2.out hb3 (Nat.le_refl _))
      clear hb3
      go_wp2_with fail
      go_ret
      exact ⟨rfl, HB3.out⟩
    | true =>
      have hc20 : (ps.length : Int) > 20 := by
        rcases Nat.lt_or_ge 20 ps.length with h | h
        · omega
        · exact absurd ⟨h, hisp⟩ hnot
      rw [hisp] at HI
      clear hisp hnot
      go_wp2_with fail
      refine HI.out.mono ?_
      rintro e W3 ⟨rfl, hb3⟩
      have HB3 := Lib.hid (bvia HB2.out hb3 (Nat.le_refl _))
      clear hb3
      go_wp2_with fail
      go_ret
      exact ⟨rfl, HB3.out⟩
end Go.Proofs.Ytidojcogojchpaa

/- mem's laws: few. -/
set_option linter.unusedVariables false
set_option linter.unusedSimpArgs false
namespace Go.Proofs.Ytidojcogojchpaa
open Go.RowKit Go.Shelf

def fwA (n : Int) (x : CV) : Int := wrap64 (n + x.bs.length)
def fwB (n : Int) (x : CV) : Int := if 0 < x.n ∧ x.n ≤ 65536 then wrap64 (fwA n x + x.n) else fwA n x
def fwP (p : Int) (x : CV) : Int := if x.kind = 0 ∧ 0 < x.n ∧ x.n ≤ 2000 then wrap64 (p + x.n) else p
def fwN (xs : List CV) : Int := xs.foldl fwB 0
def fwQ (xs : List CV) : Int := xs.foldl fwP 0
def fewB (xs : List CV) : Bool := decide (xs.length ≤ 60 ∧ fwN xs ≤ 200000 ∧ fwQ xs ≤ 3000)
theorem fwN_snoc (xs : List CV) (k : Nat) (hk : k < xs.length) : fwN (xs.take (k + 1)) = fwB (fwN (xs.take k)) (gx xs k) := by
  rw [List.take_succ_eq_append_getElem hk, fwN, List.foldl_append, gx_get xs k hk]; rfl
theorem fwQ_snoc (xs : List CV) (k : Nat) (hk : k < xs.length) : fwQ (xs.take (k + 1)) = fwP (fwQ (xs.take k)) (gx xs k) := by
  rw [List.take_succ_eq_append_getElem hk, fwQ, List.foldl_append, gx_get xs k hk]; rfl
set_option maxRecDepth 100000 in
set_option maxHeartbeats 4000000 in
theorem few_any (W : World) (A : Option Addr) (c : Nat) (xs : List CV) (h : CsIn W A c xs) :
    Calls Try.prog 32 #[.slice A xs.length c] W fun e w' => e = .returned (.bool (fewB xs)) ∧ Below W.heap.size W w' := by
  have hcp := h.cap
  have hle := h.le
  have H := Lib.hid h
  clear h
  go_enter Try.func32, Try.ntmps32
  go_wp2_with fail
  go_loopw [3, 4, 9] (fun n p i wr => ∃ k : Nat, k ≤ xs.length ∧ i = .int .i64 k ∧ n = .int .i64 (fwN (xs.take k)) ∧ p = .int .i64 (fwQ (xs.take k)) ∧ Hid (Below W.heap.size W wr)) (fun _ _ i _ => xs.length - (intOf i).toNat)
  case atStart => exact ⟨0, Nat.zero_le _, rfl, rfl, rfl, Lib.hid (Below.refl _ _)⟩
  case round =>
    obtain ⟨k, hk, rfl, rfl, rfl, hI⟩ := hrel
    by_cases hlt : k < xs.length
    · obtain ⟨ad, rfl, hx⟩ := (H.out.below hI.out).at k hlt
      obtain ⟨x0, x1, x2, x3, x4, x5⟩ := hx
      have hN := fwN_snoc xs k hlt
      have hQ := fwQ_snoc xs k hlt
      obtain ⟨n0, hn0⟩ : ∃ n0, fwN (xs.take k) = n0 := ⟨_, rfl⟩
      obtain ⟨p0, hp0⟩ : ∃ p0, fwQ (xs.take k) = p0 := ⟨_, rfl⟩
      rw [hn0] at hN ⊢
      rw [hp0] at hQ ⊢
      obtain ⟨X, hX⟩ : ∃ X, gx xs k = X := ⟨_, rfl⟩
      rw [hX] at x0 x1 x2 x3 x4 x5 hN hQ
      obtain ⟨kind, pg, n, rt, a, Ab, cb, bs⟩ := X
      obtain ⟨W5, hW5⟩ : ∃ W5, wr.alloc (.cells #[.int .i64 kind, .int .i64 pg, .int .i64 n, .int .i64 rt, .int .u32 a, .slice Ab bs.length cb] 54) = W5 := ⟨_, rfl⟩
      have h5 : W5.heap[wr.heap.size]? = some (.cells #[.int .i64 kind, .int .i64 pg, .int .i64 n, .int .i64 rt, .int .u32 a, .slice Ab bs.length cb] 54 (0, 0)) := by rw [← hW5]; exact heap_alloc_new wr _
      have hb5 : Below wr.heap.size wr W5 := by rw [← hW5]; exact balloc wr _
      have y0 : W5.cell? ⟨wr.heap.size, 0, none⟩ = some (.int .i64 kind) := by simp [World.cell?, h5]
      have y2 : W5.cell? ⟨wr.heap.size, 2, none⟩ = some (.int .i64 n) := by simp [World.cell?, h5]
      have y5 : W5.cell? ⟨wr.heap.size, 5, none⟩ = some (.slice Ab bs.length cb) := by simp [World.cell?, h5]
      have HB5 := Lib.hid (hI.out.trans (hb5.mono hI.out.size))
      have HN := Lib.hid hN
      have HQ := Lib.hid hQ
      clear h5 hb5 hN hQ hn0 hp0 hX
      go_wp2_with fail
      all_goals
        refine ⟨⟨k + 1, by omega, by go_num, ?_, ?_, HB5⟩, by simp [intOf]; omega⟩
        · rw [HN.out]
          simp only [fwB, fwA]
          first
            | (rw [if_pos (c := 0 < n ∧ n ≤ 65536) (by omega)])
            | (rw [if_neg (c := 0 < n ∧ n ≤ 65536) (by omega)])
        · rw [HQ.out]
          simp only [fwP]
          first
            | (rw [if_pos (c := kind = 0 ∧ 0 < n ∧ n ≤ 2000) (by omega)])
            | (rw [if_neg (c := kind = 0 ∧ 0 < n ∧ n ≤ 2000) (by omega)])
    · obtain rfl : k = xs.length := by omega
      rw [List.take_length]
      obtain ⟨n0, hn0⟩ : ∃ n0, fwN xs = n0 := ⟨_, rfl⟩
      obtain ⟨p0, hp0⟩ : ∃ p0, fwQ xs = p0 := ⟨_, rfl⟩
      rw [hn0, hp0]
      have HF : Hid (fewB xs = decide (xs.length ≤ 60 ∧ n0 ≤ 200000 ∧ p0 ≤ 3000)) := Lib.hid (by unfold fewB; rw [hn0, hp0])
      clear hn0 hp0
      go_wp2_with fail
      all_goals
        go_ret
        rw [HF.out]
        refine ⟨?_, hI.out⟩
        first
          | exact congrArg (fun x => Ending.returned (Value.bool x)) (show decide (p0 ≤ 3000) = decide (xs.length ≤ 60 ∧ n0 ≤ 200000 ∧ p0 ≤ 3000) from decide_eq_decide.2 (by omega))
          | exact congrArg (fun x => Ending.returned (Value.bool x)) (show false = decide (xs.length ≤ 60 ∧ n0 ≤ 200000 ∧ p0 ≤ 3000) from (decide_eq_false (by omega)).symm)
end Go.Proofs.Ytidojcogojchpaa

/- mem's laws: MemClones. -/
set_option linter.unusedVariables false
set_option linter.unusedSimpArgs false
namespace Go.Proofs.Ytidojcogojchpaa
open Go.RowKit Go.Shelf

theorem ldM_cg (ps : List PV) : (ldM ps).cg = [] := by
  unfold ldM
  suffices h : ∀ (L : List PV) (A : PM), (L.foldl (fun A p => A.put p.n ⟨p.r, p.bs⟩) A).cg = A.cg from h ps PM.new
  intro L
  induction L with
  | nil => intro A; rfl
  | cons p L ih => intro A; rw [List.foldl_cons, ih]; rfl
/-- What the loop carries. -/
def ClI (w : World) (B b : Nat) (A : PM) (v : Value) (V : World) : Prop := ∃ c C, v = .pointer (some ⟨c, 0, none⟩) ∧ M2 B V b A c C ∧ Below w.heap.size w V
set_option maxRecDepth 1000000 in
set_option maxHeartbeats 8000000 in
theorem clones_any (A : Option Addr) (c : Nat) (ps : List PV) (D : Option Addr) (cd : Nat) (xs : List CV) (w : World) (hp : PsIn w A c ps) (hx : CsIn w D cd xs) :
    Calls Try.prog 7 #[.slice A ps.length c, .slice D xs.length cd] w fun e w' => e = .returned (.bool true) ∧ Below w.heap.size w w' := by
  have HP := Lib.hid hp
  have HX := Lib.hid hx
  have hlen := hp.rd.le
  have hcx := hx.cap
  have hlx := hx.le
  clear hp hx
  go_enter Try.func7, Try.ntmps7
  go_wp2_with fail
  refine (sane_any w).mono ?_
  rintro e W1 ⟨rfl, hb1⟩
  have HB1 := Lib.hid hb1
  have HP1 := Lib.hid (HP.out.below hb1)
  clear hb1
  go_wp2_with fail
  refine (loaded_any W1 A c ps HP1.out.rd HP1.out.by_ HP1.out.u8).mono ?_
  rintro e W2 ⟨hb2, hres⟩
  have HB2 := Lib.hid (bvia HB1.out hb2 (Nat.le_refl _))
  clear hb2
  rcases hres with ⟨⟨hl20, hisp⟩, mb, rfl, hld⟩ | ⟨hnot, rfl⟩
  · have hc20 : ¬ (ps.length : Int) > 20 := by omega
    have HPO := Lib.hid (psOk_of hisp HP1.out.u8 (by omega))
    have HM := Lib.hid hld.m1.1
    have HISP := Lib.hid hisp
    clear hisp hld
    have HFW := Lib.hid (few_any W2 D cd xs (HX.out.below HB2.out))
    cases hfw : fewB xs with
    | false =>
      rw [hfw] at HFW
      go_wp2_with fail
      refine HFW.out.mono ?_
      rintro e W3 ⟨rfl, hb3⟩
      have HB3 := Lib.hid (bvia HB2.out hb3 (Nat.le_refl _))
      clear hb3
      have HI := Lib.hid (IsPages_any W3 A c ps (HP.out.below HB3.out).rd)
      rw [HISP.out] at HI
      go_wp2_with fail
      refine HI.out.mono ?_
      rintro e W4 ⟨rfl, hb4⟩
      have HB4 := Lib.hid (bvia HB3.out hb4 (Nat.le_refl _))
      clear hb4
      have HFW4 := Lib.hid (few_any W4 D cd xs (HX.out.below HB4.out))
      rw [hfw] at HFW4
      clear hfw HFW
      go_wp2_with fail
      refine HFW4.out.mono ?_
      rintro e W5 ⟨rfl, hb5⟩
      have HB5 := Lib.hid (bvia HB4.out hb5 (Nat.le_refl _))
      clear hb5
      go_wp2_with fail
      go_ret
      exact ⟨rfl, HB5.out⟩
    | true =>
      rw [hfw] at HFW
      clear hfw
      go_wp2_with fail
      refine HFW.out.mono ?_
      rintro e W3 ⟨rfl, hb3⟩
      have HM3 := Lib.hid (HM.out.below hb3)
      have HB3 := Lib.hid (bvia HB2.out hb3 (Nat.le_refl _))
      have hs3 : w.heap.size ≤ W1.heap.size := HB1.out.size
      clear hb3 HFW
      go_wp2_with fail
      refine HM3.out.Clone.mono ?_
      rintro e W4 ⟨k0, rfl, m4, hb4⟩
      have HI4 : Hid (ClI w W1.heap.size mb (ldM ps) (.pointer (some ⟨k0, 0, none⟩)) W4) := Lib.hid ⟨k0, _, rfl, m4, HB3.out.trans (hb4.mono hs3)⟩
      clear m4 hb4
      go_wp2_with fail
      go_loopw [7, 41] (fun v i wr => ∃ k : Nat, k ≤ xs.length ∧ i = .int .i64 k ∧ Hid (ClI w W1.heap.size mb (ldM ps) v wr)) (fun _ i _ => xs.length - (intOf i).toNat)
      case atStart => exact ⟨0, Nat.zero_le _, rfl, HI4⟩
      case round =>
        obtain ⟨k, hk, rfl, hI⟩ := hrel
        obtain ⟨kc, C, rfl, m5, hb5⟩ := hI.out
        by_cases hlt : k < xs.length
        · have hXk := HX.out.ok _ (gx_mem xs k hlt)
          obtain ⟨ad, rfl, x0, x1, x2, x3, x4, x5⟩ := (HX.out.below hb5).at k hlt
          obtain ⟨X, hX⟩ : ∃ X, gx xs k = X := ⟨_, rfl⟩
          rw [hX] at x0 x1 x2 x3 x4 x5 hXk
          obtain ⟨kind, pg, n, rt, a, Ab, cb, bs⟩ := X
          obtain ⟨W5, hW5⟩ : ∃ W5, wr.alloc (.cells #[.int .i64 kind, .int .i64 pg, .int .i64 n, .int .i64 rt, .int .u32 a, .slice Ab bs.length cb] 54) = W5 := ⟨_, rfl⟩
          have h5 : W5.heap[wr.heap.size]? = some (.cells #[.int .i64 kind, .int .i64 pg, .int .i64 n, .int .i64 rt, .int .u32 a, .slice Ab bs.length cb] 54 (0, 0)) := by rw [← hW5]; exact heap_alloc_new wr _
          have hbw : Below wr.heap.size wr W5 := by rw [← hW5]; exact balloc wr _
          have y0 : W5.cell? ⟨wr.heap.size, 0, none⟩ = some (.int .i64 kind) := by simp [World.cell?, h5]
          have y1 : W5.cell? ⟨wr.heap.size, 1, none⟩ = some (.int .i64 pg) := by simp [World.cell?, h5]
          have y2 : W5.cell? ⟨wr.heap.size, 2, none⟩ = some (.int .i64 n) := by simp [World.cell?, h5]
          have y3 : W5.cell? ⟨wr.heap.size, 3, none⟩ = some (.int .i64 rt) := by simp [World.cell?, h5]
          have y4 : W5.cell? ⟨wr.heap.size, 4, none⟩ = some (.int .u32 a) := by simp [World.cell?, h5]
          have y5 : W5.cell? ⟨wr.heap.size, 5, none⟩ = some (.slice Ab bs.length cb) := by simp [World.cell?, h5]
          have HM5 := Lib.hid (m5.below hbw)
          have HB5 := Lib.hid (bvia hb5 hbw (Nat.le_refl _))
          have HOK := Lib.hid hXk
          clear h5 hbw hX hXk m5 hb5 hI
          by_cases k0 : kind = 0
          · subst k0
            go_wp2_with fail
            refine (HM5.out.Map pg n rt).mono ?_
            rintro e W6 ⟨rfl, m6, hb6⟩
            have HI6 : Hid (ClI w W1.heap.size mb (ldM ps) (.pointer (some ⟨kc, 0, none⟩)) W6) := Lib.hid ⟨kc, _, rfl, m6, HB5.out.trans (hb6.mono hs3)⟩
            obtain ⟨z1, hz1⟩ : ∃ z, mapR C pg n rt = z := ⟨_, rfl⟩
            rw [hz1]
            clear hz1
            clear m6 hb6
            go_wp2_with fail
            go_roundw
            case rel => exact ⟨k + 1, by omega, by go_num, HI6⟩
            case measure => simp [intOf]; omega
          by_cases k1 : kind = 1
          · subst k1
            go_wp2_with fail
            refine (HM5.out.Unmap pg n).mono ?_
            rintro e W6 ⟨rfl, m6, hb6⟩
            have HI6 : Hid (ClI w W1.heap.size mb (ldM ps) (.pointer (some ⟨kc, 0, none⟩)) W6) := Lib.hid ⟨kc, _, rfl, m6, HB5.out.trans (hb6.mono hs3)⟩
            obtain ⟨z1, hz1⟩ : ∃ z, unmR C pg n = z := ⟨_, rfl⟩
            rw [hz1]
            clear hz1
            clear m6 hb6
            go_wp2_with fail
            go_roundw
            case rel => exact ⟨k + 1, by omega, by go_num, HI6⟩
            case measure => simp [intOf]; omega
          by_cases k2 : kind = 2
          · subst k2
            go_wp2_with fail
            refine (HM5.out.Protect pg n rt).mono ?_
            rintro e W6 ⟨rfl, m6, hb6⟩
            have HI6 : Hid (ClI w W1.heap.size mb (ldM ps) (.pointer (some ⟨kc, 0, none⟩)) W6) := Lib.hid ⟨kc, _, rfl, m6, HB5.out.trans (hb6.mono hs3)⟩
            obtain ⟨z1, hz1⟩ : ∃ z, proR C pg n rt = z := ⟨_, rfl⟩
            rw [hz1]
            clear hz1
            clear m6 hb6
            go_wp2_with fail
            go_roundw
            case rel => exact ⟨k + 1, by omega, by go_num, HI6⟩
            case measure => simp [intOf]; omega
          by_cases k7 : kind = 7
          · subst k7
            go_wp2_with fail
            refine (HM5.out.Write0 a bs Ab cb HOK.out.at_ HOK.out.bs.cap ((HOK.out.bs.below HB5.out).rd) HOK.out.bs.u8 fun h0 ad e => by have := HOK.out.bs.rd.old (by rw [Nat.mul_one]; exact h0) ad e; omega).mono ?_
            rintro e W6 ⟨rfl, m6, hb6⟩
            have HI6 : Hid (ClI w W1.heap.size mb (ldM ps) (.pointer (some ⟨kc, 0, none⟩)) W6) := Lib.hid ⟨kc, _, rfl, m6, HB5.out.trans (hb6.mono hs3)⟩
            obtain ⟨z1, hz1⟩ : ∃ z, wrA C 2 a bs.length = z := ⟨_, rfl⟩
            obtain ⟨z2, hz2⟩ : ∃ z, wrB C 2 a bs.length = z := ⟨_, rfl⟩
            rw [hz1, hz2]
            clear hz1 hz2
            clear m6 hb6
            go_wp2_with fail
            go_roundw
            case rel => exact ⟨k + 1, by omega, by go_num, HI6⟩
            case measure => simp [intOf]; omega
          by_cases k8 : kind = 8
          · subst k8
            go_wp2_with fail
            refine (HM5.out.Poke0 a bs Ab cb HOK.out.at_ HOK.out.bs.cap ((HOK.out.bs.below HB5.out).rd) HOK.out.bs.u8 fun h0 ad e => by have := HOK.out.bs.rd.old (by rw [Nat.mul_one]; exact h0) ad e; omega).mono ?_
            rintro e W6 ⟨rfl, m6, hb6⟩
            have HI6 : Hid (ClI w W1.heap.size mb (ldM ps) (.pointer (some ⟨kc, 0, none⟩)) W6) := Lib.hid ⟨kc, _, rfl, m6, HB5.out.trans (hb6.mono hs3)⟩
            obtain ⟨z1, hz1⟩ : ∃ z, wrA C 0 a bs.length = z := ⟨_, rfl⟩
            obtain ⟨z2, hz2⟩ : ∃ z, wrB C 0 a bs.length = z := ⟨_, rfl⟩
            rw [hz1, hz2]
            clear hz1 hz2
            clear m6 hb6
            go_wp2_with fail
            go_roundw
            case rel => exact ⟨k + 1, by omega, by go_num, HI6⟩
            case measure => simp [intOf]; omega
          by_cases k11 : kind = 11
          · subst k11
            go_wp2_with fail
            refine HM5.out.Clone.mono ?_
            rintro e W6 ⟨kd, rfl, m6, hb6⟩
            have HI6 : Hid (ClI w W1.heap.size mb (ldM ps) (.pointer (some ⟨kd, 0, none⟩)) W6) := Lib.hid ⟨kd, _, rfl, m6, HB5.out.trans (hb6.mono hs3)⟩
            clear m6 hb6
            go_wp2_with fail
            go_roundw
            case rel => exact ⟨k + 1, by omega, by go_num, HI6⟩
            case measure => simp [intOf]; omega
          have HI6 : Hid (ClI w W1.heap.size mb (ldM ps) (.pointer (some ⟨kc, 0, none⟩)) W5) := Lib.hid ⟨kc, _, rfl, HM5.out, HB5.out⟩
          have d0 : (kind == 0) = false := by simpa using k0
          have d1 : (kind == 1) = false := by simpa using k1
          have d2 : (kind == 2) = false := by simpa using k2
          have d7 : (kind == 7) = false := by simpa using k7
          have d8 : (kind == 8) = false := by simpa using k8
          have d11 : (kind == 11) = false := by simpa using k11
          go_wp2_with fail
          go_roundw
          case rel => exact ⟨k + 1, by omega, by go_num, HI6⟩
          case measure => simp [intOf]; omega
        · obtain rfl : k = xs.length := by omega
          have HM5 := Lib.hid m5
          have HB5 := Lib.hid hb5
          clear m5 hb5 hI hlt hk
          go_wp2_with fail
          refine HM5.out.fst.Save.mono ?_
          rintro e W6 ⟨⟨A6, c6, qs, rfl, rd6, new6, see6, by6, u6⟩, hb6⟩
          rw [save_load ps HPO.out] at see6
          have HM6 := Lib.hid (HM5.out.fst.below hb6)
          have HB6 := Lib.hid (bvia HB5.out hb6 (Nat.le_refl _))
          have HSP := Lib.hid (SamePages_any W6 A6 A c6 c qs ps rd6 ((HP.out.below HB6.out).rd) by6.zero (HP.out.below HB6.out).by_ u6 HP.out.u8)
          rw [sameP_of see6] at HSP
          clear rd6 new6 see6 by6 u6 hb6
          go_wp2_with fail
          refine HSP.out.mono ?_
          rintro e W7 ⟨rfl, hb7⟩
          have HM7 := Lib.hid (HM6.out.below hb7)
          have HB7 := Lib.hid (bvia HB6.out hb7 (Nat.le_refl _))
          clear hb7
          go_wp2_with fail
          refine HM7.out.Changed.mono ?_
          rintro e W8 ⟨⟨A8, c8, rfl, rd8, hc8, new8⟩, hb8⟩
          have HB8 := Lib.hid (bvia HB7.out hb8 (Nat.le_refl _))
          rw [ldM_cg]
          clear rd8 hc8 new8 hb8
          go_wp2_with fail
          go_ret
          exact ⟨rfl, HB8.out⟩
  · have HI := Lib.hid (IsPages_any W2 A c ps (HP.out.below HB2.out).rd)
    cases hisp : isP ps with
    | false =>
      rw [hisp] at HI
      clear hisp hnot
      go_wp2_with fail
      refine HI.out.mono ?_
      rintro e W3 ⟨rfl, hb3⟩
      have HB3 := Lib.hid (bvia HB2.out hb3 (Nat.le_refl _))
      clear hb3
      go_wp2_with fail
      go_ret
      exact ⟨rfl, HB3.out⟩
    | true =>
      have hc20 : (ps.length : Int) > 20 := by
        rcases Nat.lt_or_ge 20 ps.length with h | h
        · omega
        · exact absurd ⟨h, hisp⟩ hnot
      rw [hisp] at HI
      clear hisp hnot
      go_wp2_with fail
      refine HI.out.mono ?_
      rintro e W3 ⟨rfl, hb3⟩
      have HB3 := Lib.hid (bvia HB2.out hb3 (Nat.le_refl _))
      clear hb3
      go_wp2_with fail
      go_ret
      exact ⟨rfl, HB3.out⟩
end Go.Proofs.Ytidojcogojchpaa
