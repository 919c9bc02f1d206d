/- mem's laws: MemWhole. -/
import Derived.Test.YtidojcogojchpaaM04
set_option linter.unusedVariables false
set_option linter.unusedSimpArgs false
namespace Go.Proofs.Ytidojcogojchpaa
open Go.RowKit Go.Shelf

/-- What was poked is read. -/
theorem bytesN_poke (A : PM) (at_ : Int) (bs : List Int) (h0 : 0 ≤ at_ ∧ at_ < 4294967296) (hl : bs.length ≤ 65536) : bytesN (A.poke at_ bs bs.length) at_ bs.length = bs := by
  refine list_gi (bytesN_len _ _ _) fun j hj => ?_
  rw [bytesN_len] at hj
  have hm0 := Int.emod_nonneg (pcAt at_ (j : Int)) (show (256 : Int) ≠ 0 by omega)
  have hm1 := Int.emod_lt_of_pos (pcAt at_ (j : Int)) (show (0 : Int) < 256 by omega)
  have e1 : gi (bytesN (A.poke at_ bs bs.length) at_ bs.length) j = byteAt (A.poke at_ bs bs.length) (pcAt at_ (j : Int)) := by
    rw [gi_get _ _ (by rw [bytesN_len]; exact hj)]
    simp [bytesN]
  rw [e1]
  unfold byteAt
  show gi (pokeB A at_ bs bs.length (pcAt at_ (j : Int) / 256)) _ = _
  rw [pokeB_gi _ _ _ _ _ _ (by omega)]
  have e2 : (pcAt at_ (j : Int) / 256 * 256 + ((pcAt at_ (j : Int) % 256).toNat : Int) - at_) % 4294967296 = (j : Int) := by
    rw [Int.toNat_of_nonneg hm0]
    unfold pcAt
    omega
  rw [e2, if_pos (by omega)]
  simp
theorem wr_true {A : PM} {need at_ : Int} {n : Nat} (h : wrB A need at_ n = true) : allOk A need at_ n ∧ n ≤ 65536 := by
  unfold wrB at h
  split at h
  · cases h
  · exact ⟨firstBad_all (by simpa using h), by omega⟩
theorem bits_zero (x : Int) (h : 0 ≤ x ∧ x ≤ 7) : bits .and .i64 x 0 = 0 := by
  have : x = 0 ∨ x = 1 ∨ x = 2 ∨ x = 3 ∨ x = 4 ∨ x = 5 ∨ x = 6 ∨ x = 7 := by omega
  rcases this with rfl | rfl | rfl | rfl | rfl | rfl | rfl | rfl <;> rfl
theorem peek_poked {A : PM} {at_ need : Int} {bs : List Int} (h0 : 0 ≤ at_ ∧ at_ < 4294967296) (hr : ∀ n ∈ A.ks, 0 ≤ (A.pg n).r ∧ (A.pg n).r ≤ 7) (h : wrB A need at_ bs.length = true) :
    rdB (wrM A need at_ bs) 0 at_ bs.length = true ∧ rdL (wrM A need at_ bs) 0 at_ bs.length = bs := by
  obtain ⟨hok, hl⟩ := wr_true h
  have e : wrM A need at_ bs = A.poke at_ bs bs.length := by unfold wrM; exact if_pos h
  have hok' : allOk (A.poke at_ bs bs.length) 0 at_ bs.length := fun i i0 i1 => ⟨(hok i i0 i1).1, bits_zero _ (hr _ (hok i i0 i1).1)⟩
  obtain ⟨r1, r2, r3⟩ := rd_ok (A := A.poke at_ bs bs.length) (need := 0) (at_ := at_) (n := bs.length) (by omega) (by omega) hok'
  rw [e]
  refine ⟨r2, r3.trans ?_⟩
  rw [Int.toNat_natCast]
  exact bytesN_poke A at_ bs h0 hl
theorem M1.rights {B : Nat} {W : World} {b : Nat} {A : PM} (h : M1 B W b A) : ∀ n ∈ A.ks, 0 ≤ (A.pg n).r ∧ (A.pg n).r ≤ 7 := by
  obtain ⟨S, h1, _⟩ := h.ex
  exact fun n hn => (h1.mem.page n hn).2.r
theorem M1.right {B : Nat} {W : World} {b : Nat} {A : PM} (h : M1 B W b A) (at_ need : Int) (n : Nat) (ha : 0 ≤ at_ ∧ at_ < 4294967296) (hn : n ≤ 65536) (hnd : 0 ≤ need ∧ need ≤ 7) :
    Calls Try.prog 22 #[.pointer (some ⟨b, 0, none⟩), .int .u32 at_, .int .i64 n, .int .i64 need] W fun e w' => e = .returned (.tuple #[.int .u32 (wrA A need at_ n), .bool (wrB A need at_ n)]) ∧ Below W.heap.size W w' := by
  obtain ⟨S, h1, _⟩ := h.ex
  exact right_any W b S A at_ need n h1.mem ha hn hnd
theorem BytesAt.zero {W : World} {B : Nat} {ps : List PV} (h : BytesAt W B ps) : BytesAt W 0 ps := fun p hp => ⟨(h p hp).1, (h p hp).2.1, fun _ _ => Nat.zero_le _⟩
theorem sameP_of {ps qs : List PV} (h : ps.map PV.see = qs.map PV.see) : sameP ps qs = true := decide_eq_true h

set_option maxRecDepth 1000000 in
set_option maxHeartbeats 8000000 in
theorem whole_any (A : Option Addr) (c : Nat) (ps : List PV) (at_ : Int) (D : Option Addr) (cd : Nat) (bs : List Int) (w : World) (hp : PsIn w A c ps) (ha : 0 ≤ at_ ∧ at_ < 4294967296) (hb : BsIn w D cd bs) :
    Calls Try.prog 4 #[.slice A ps.length c, .int .u32 at_, .slice D bs.length cd] w fun e w' => e = .returned (.bool true) ∧ Below w.heap.size w w' := by
  have HP := Lib.hid hp
  have HBS := Lib.hid hb
  have hlen := hp.rd.le
  have hlb := hb.le
  have hcb := hb.cap
  clear hp hb
  go_enter Try.func4, Try.ntmps4
  go_wp2_with fail
  refine (sane_any w).mono ?_
  rintro e W1 ⟨rfl, hb1⟩
  have HB1 := Lib.hid hb1
  have HP1 := Lib.hid (HP.out.below hb1)
  clear hb1
  go_wp2_with fail
  refine (loaded_any W1 A c ps HP1.out.rd HP1.out.by_ HP1.out.u8).mono ?_
  rintro e W2 ⟨hb2, hres⟩
  have HB2 := Lib.hid (bvia HB1.out hb2 (Nat.le_refl _))
  have HP2 := Lib.hid (HP1.out.below hb2)
  have HI := Lib.hid (IsPages_any W2 A c ps (HP1.out.below hb2).rd)
  clear hb2
  rcases hres with ⟨⟨hl20, hisp⟩, mb, rfl, hld⟩ | ⟨hnot, rfl⟩
  · rw [hisp] at HI
    have hc20 : ¬ (ps.length : Int) > 20 := by omega
    have HPO := Lib.hid (psOk_of hisp HP1.out.u8 (by omega))
    have HM := Lib.hid hld.m1.1
    clear hisp hld
    by_cases hbl : bs.length ≤ 2000
    · have hcb2 : ¬ (bs.length : Int) > 2000 := by omega
      go_wp2_with fail
      refine (HM.out.right at_ 2 bs.length ha (by omega) (by omega)).mono ?_
      rintro e W3 ⟨rfl, hb3⟩
      have HM3 := Lib.hid (HM.out.below hb3)
      have HB3 := Lib.hid (bvia HB2.out hb3 (Nat.le_refl _))
      have hs3 : w.heap.size ≤ W1.heap.size := HB1.out.size
      clear hb3
      go_wp2_with fail
      refine (HM3.out.Write0 at_ bs D cd ha hcb ((HBS.out.below HB3.out).rd) HBS.out.u8 fun h0 ad e => by have := HBS.out.rd.old (by omega) ad e; omega).mono ?_
      rintro e W4 ⟨rfl, m4, hb4⟩
      have HM4 := Lib.hid m4
      have HB4 := Lib.hid (HB3.out.trans (hb4.mono hs3))
      obtain ⟨wa, hwa⟩ : ∃ x, wrA (ldM ps) 2 at_ bs.length = x := ⟨_, rfl⟩
      rw [hwa]
      cases hwb : wrB (ldM ps) 2 at_ bs.length with
      | false =>
        have HWM : Hid (wrM (ldM ps) 2 at_ bs = ldM ps) := Lib.hid (by unfold wrM; rw [hwb]; rfl)
        clear m4 hb4 hwa hwb
        go_wp2_with fail
        refine (HM4.out.Save).mono ?_
        rintro e W5 ⟨⟨A5, c5, qs, rfl, rd5, new5, see5, by5, u5⟩, hb5⟩
        rw [HWM.out, save_load ps HPO.out] at see5
        have HB5 := Lib.hid (bvia HB4.out hb5 (Nat.le_refl _))
        have HSP := Lib.hid (SamePages_any W5 A5 A c5 c qs ps rd5 ((HP.out.below HB5.out).rd) by5.zero (HP.out.below HB5.out).by_ u5 HP.out.u8)
        rw [sameP_of see5] at HSP
        clear rd5 new5 see5 by5 u5 hb5
        go_wp2_with fail
        refine HSP.out.mono ?_
        rintro e W6 ⟨rfl, hb6⟩
        have HB6 := Lib.hid (bvia HB5.out hb6 (Nat.le_refl _))
        clear hb6
        go_wp2_with fail
        go_ret
        exact ⟨rfl, HB6.out⟩
      | true =>
        have HPK := Lib.hid (peek_poked ha HM.out.rights hwb)
        clear m4 hb4 hwa hwb
        go_wp2_with fail
        refine (HM4.out.Peek at_ bs.length ha).mono ?_
        rintro e W5 ⟨⟨A5, c5, rfl, rd5, hc5, new5⟩, hb5, u5⟩
        have HB5 := Lib.hid (bvia HB4.out hb5 (Nat.le_refl _))
        rw [HPK.out.1, HPK.out.2]
        rw [HPK.out.2] at rd5
        have R5 := Lib.hid rd5
        clear rd5 hc5 new5 u5 hb5
        obtain ⟨ra, hra⟩ : ∃ x, rdA (wrM (ldM ps) 2 at_ bs) 0 at_ bs.length = x := ⟨_, rfl⟩
        rw [hra]
        clear hra
        go_wp2_with fail
        refine (Equal_bytes W5 A5 D bs bs c5 cd R5.out ((HBS.out.below HB5.out).rd) HBS.out.u8 HBS.out.u8).mono ?_
        rintro e W6 ⟨rfl, rfl⟩
        rw [show decide (bs = bs) = true from decide_eq_true rfl]
        go_wp2_with fail
        go_ret
        exact ⟨rfl, HB5.out⟩
    · have hcb2 : (bs.length : Int) > 2000 := by omega
      go_wp2_with fail
      refine HI.out.mono ?_
      rintro e W3 ⟨rfl, hb3⟩
      have HB3 := Lib.hid (bvia HB2.out hb3 (Nat.le_refl _))
      clear hb3
      go_wp2_with fail
      go_ret
      exact ⟨rfl, HB3.out⟩
  · cases hisp : isP ps with
    | false =>
      rw [hisp] at HI
      clear hisp hnot
      go_wp2_with fail
      refine HI.out.mono ?_
      rintro e W3 ⟨rfl, hb3⟩
      have HB3 := Lib.hid (bvia HB2.out hb3 (Nat.le_refl _))
      clear hb3
      go_wp2_with fail
      go_ret
      exact ⟨rfl, HB3.out⟩
    | true =>
      have hc20 : (ps.length : Int) > 20 := by
        rcases Nat.lt_or_ge 20 ps.length with h | h
        · omega
        · exact absurd ⟨h, hisp⟩ hnot
      rw [hisp] at HI
      clear hisp hnot
      go_wp2_with fail
      refine HI.out.mono ?_
      rintro e W3 ⟨rfl, hb3⟩
      have HB3 := Lib.hid (bvia HB2.out hb3 (Nat.le_refl _))
      clear hb3
      go_wp2_with fail
      go_ret
      exact ⟨rfl, HB3.out⟩
end Go.Proofs.Ytidojcogojchpaa
