/- mem's laws: MemWhole. -/
import Derived.Test.YtidojcogojchpaaM04
set_option linter.unusedVariables false
set_option linter.unusedSimpArgs false
namespace Go.Proofs.Ytidojcogojchpaa
open Go.RowKit Go.Shelf

/-- What was poked is read. -/
theorem bytesN_poke (A : PM) (at_ : Int) (bs : List Int) (h0 : 0 ≤ at_ ∧ at_ < 4294967296) (hl : bs.length ≤ 65536) : bytesN (A.poke at_ bs bs.length) at_ bs.length = bs := by
  refine list_gi (bytesN_len _ _ _) fun j hj => ?_
  rw [bytesN_len] at hj
  have hm0 := Int.emod_nonneg (pcAt at_ (j : Int)) (show (256 : Int) ≠ 0 by omega)
  have hm1 := Int.emod_lt_of_pos (pcAt at_ (j : Int)) (show (0 : Int) < 256 by omega)
  have e1 : gi (bytesN (A.poke at_ bs bs.length) at_ bs.length) j = byteAt (A.poke at_ bs bs.length) (pcAt at_ (j : Int)) := by
    rw [gi_get _ _ (by rw [bytesN_len]; exact hj)]
    simp [bytesN]
  rw [e1]
  unfold byteAt
  show gi (pokeB A at_ bs bs.length (pcAt at_ (j : Int) / 256)) _ = _
  rw [pokeB_gi _ _ _ _ _ _ (by omega)]
  have e2 : (pcAt at_ (j : Int) / 256 * 256 + ((pcAt at_ (j : Int) % 256).toNat : Int) - at_) % 4294967296 = (j : Int) := by
    rw [Int.toNat_of_nonneg hm0]
    unfold pcAt
    omega
  rw [e2, if_pos (by omega)]
  simp
theorem wr_true {A : PM} {need at_ : Int} {n : Nat} (h : wrB A need at_ n = true) : allOk A need at_ n ∧ n ≤ 65536 := by
  unfold wrB at h
  split at h
  · cases h
  · exact ⟨firstBad_all (by simpa using h), by omega⟩
theorem bits_zero (x : Int) (h : 0 ≤ x ∧ x ≤ 7) : bits .and .i64 x 0 = 0 := by
  have : x = 0 ∨ x = 1 ∨ x = 2 ∨ x = 3 ∨ x = 4 ∨ x = 5 ∨ x = 6 ∨ x = 7 := by omega
  rcases this with rfl | rfl | rfl | rfl | rfl | rfl | rfl | rfl <;> rfl
theorem peek_poked {A : PM} {at_ need : Int} {bs : List Int} (h0 : 0 ≤ at_ ∧ at_ < 4294967296) (hr : ∀ n ∈ A.ks, 0 ≤ (A.pg n).r ∧ (A.pg n).r ≤ 7) (h : wrB A need at_ bs.length = true) :
    rdB (wrM A need at_ bs) 0 at_ bs.length = true ∧ rdL (wrM A need at_ bs) 0 at_ bs.length = bs := by
  obtain ⟨hok, hl⟩ := wr_true h
  have e : wrM A need at_ bs = A.poke at_ bs bs.length := by unfold wrM; exact if_pos h
  have hok' : allOk (A.poke at_ bs bs.length) 0 at_ bs.length := fun i i0 i1 => ⟨(hok i i0 i1).1, bits_zero _ (hr _ (hok i i0 i1).1)⟩
  obtain ⟨r1, r2, r3⟩ := rd_ok (A := A.poke at_ bs bs.length) (need := 0) (at_ := at_) (n := bs.length) (by omega) (by omega) hok'
  rw [e]
  refine ⟨r2, r3.trans ?_⟩
  rw [Int.toNat_natCast]
  exact bytesN_poke A at_ bs h0 hl
theorem M1.rights {B : Nat} {W : World} {b : Nat} {A : PM} (h : M1 B W b A) : ∀ n ∈ A.ks, 0 ≤ (A.pg n).r ∧ (A.pg n).r ≤ 7 := by
  obtain ⟨S, h1, _⟩ := h.ex
  exact fun n hn => (h1.mem.page n hn).2.r
theorem M1.right {B : Nat} {W : World} {b : Nat} {A : PM} (h : M1 B W b A) (at_ need : Int) (n : Nat) (ha : 0 ≤ at_ ∧ at_ < 4294967296) (hn : n ≤ 65536) (hnd : 0 ≤ need ∧ need ≤ 7) :
    Calls Try.prog 22 #[.pointer (some ⟨b, 0, none⟩), .int .u32 at_, .int .i64 n, .int .i64 need] W fun e w' => e = .returned (.tuple #[.int .u32 (wrA A need at_ n), .bool (wrB A need at_ n)]) ∧ Below W.heap.size W w' := by
  obtain ⟨S, h1, _⟩ := h.ex
  exact right_any W b S A at_ need n h1.mem ha hn hnd
theorem BytesAt.zero {W : World} {B : Nat} {ps : List PV} (h : BytesAt W B ps) : BytesAt W 0 ps := fun p hp => ⟨(h p hp).1, (h p hp).2.1, fun _ _ => Nat.zero_le _⟩
theorem sameP_of {ps qs : List PV} (h : ps.map PV.see = qs.map PV.see) : sameP ps qs = true := decide_eq_true h

set_option maxRecDepth 1000000 in
set_option maxHeartbeats 8000000 in
theorem whole_any (A : Option Addr) (c : Nat) (ps : List PV) (at_ : Int) (D : Option Addr) (cd : Nat) (bs : List Int) (w : World) (hp : PsIn w A c ps) (ha : 0 ≤ at_ ∧ at_ < 4294967296) (hb : BsIn w D cd bs) :
    Calls Try.prog 4 #[.slice A ps.length c, .int .u32 at_, .slice D bs.length cd] w fun e w' => e = .returned (.bool true) ∧ Below w.heap.size w w' := by
  have HP := Lib.hid hp
  have HBS := Lib.hid hb
  have hlen := hp.rd.le
  have hlb := hb.le
  have hcb := hb.cap
  clear hp hb
  go_enter Try.func4, Try.ntmps4
  go_wp2_with fail
  refine (sane_any w).mono ?_
  rintro e W1 ⟨rfl, hb1⟩
  have HB1 := Lib.hid hb1
  have HP1 := Lib.hid (HP.out.below hb1)
  clear hb1
  go_wp2_with fail
  refine (loaded_any W1 A c ps HP1.out.rd HP1.out.by_ HP1.out.u8).mono ?_
  rintro e W2 ⟨hb2, hres⟩
  have HB2 := Lib.hid (bvia HB1.out hb2 (Nat.le_refl _))
  have HP2 := Lib.hid (HP1.out.below hb2)
  have HI := Lib.hid (IsPages_any W2 A c ps (HP1.out.below hb2).rd)
  clear hb2
  rcases hres with ⟨⟨hl20, hisp⟩, mb, rfl, hld⟩ | ⟨hnot, rfl⟩
  · rw [hisp] at HI
    have hc20 : ¬ (ps.length : Int) > 20 := by omega
    have HPO := Lib.hid (psOk_of hisp HP1.out.u8 (by omega))
    have HM := Lib.hid hld.m1.1
    clear hisp hld
    by_cases hbl : bs.length ≤ 2000
    · have hcb2 : ¬ (bs.length : Int) > 2000 := by omega
      go_wp2_with fail
      refine (HM.out.right at_ 2 bs.length ha (by omega) (by omega)).mono ?_
      rintro e W3 ⟨rfl, hb3⟩
      have HM3 := Lib.hid (HM.out.below hb3)
      have HB3 := Lib.hid (bvia HB2.out hb3 (Nat.le_refl _))
      have hs3 : w.heap.size ≤ W1.heap.size := HB1.out.size
      clear hb3
      go_wp2_with fail
      refine (HM3.out.Write0 at_ bs D cd ha hcb ((HBS.out.below HB3.out).rd) HBS.out.u8 fun h0 ad e => by have := HBS.out.rd.old (by omega) ad e; omega).mono ?_
      rintro e W4 ⟨rfl, m4, hb4⟩
      have HM4 := Lib.hid m4
      have HB4 := Lib.hid (HB3.out.trans (hb4.mono hs3))
      obtain ⟨wa, hwa⟩ : ∃ x, wrA (ldM ps) 2 at_ bs.length = x := ⟨_, rfl⟩
      rw [hwa]
      cases hwb : wrB (ldM ps) 2 at_ bs.length with
      | false =>
        have HWM : Hid (wrM (ldM ps) 2 at_ bs = ldM ps) := Lib.hid (by unfold wrM; rw [hwb]; rfl)
        clear m4 hb4 hwa hwb
        go_wp2_with fail
        refine (HM4.out.Save).mono ?_
        rintro e W5 ⟨⟨A5, c5, qs, rfl, rd5, new5, see5, by5, u5⟩, hb5⟩
        rw [HWM.out, save_load ps HPO.out] at see5
        have HB5 := Lib.hid (bvia HB4.out hb5 (Nat.le_refl _))
        have HSP := Lib.hid (SamePages_any W5 A5 A c5 c qs ps rd5 ((HP.out.below HB5.out).rd) by5.zero (HP.out.below HB5.out).by_ u5 HP.out.u8)
        rw [sameP_of see5] at HSP
        clear rd5 new5 see5 by5 u5 hb5
        go_wp2_with fail
        refine HSP.out.mono ?_
        rintro e W6 ⟨rfl, hb6⟩
        have HB6 := Lib.hid (bvia HB5.out hb6 (Nat.le_refl _))
        clear hb6
        go_wp2_with fail
        go_ret
        exact ⟨rfl, HB6.out⟩
      | true =>
        have HPK := Lib.hid (peek_poked ha HM.out.rights hwb)
        clear m4 hb4 hwa hwb
        go_wp2_with fail
        refine (HM4.out.Peek at_ bs.length ha).mono ?_
        rintro e W5 ⟨⟨A5, c5, rfl, rd5, hc5, new5⟩, hb5, u5⟩
        have HB5 := Lib.hid (bvia HB4.out hb5 (Nat.le_refl _))
        rw [HPK.out.1, HPK.out.2]
        rw [HPK.out.2] at rd5
        have R5 := Lib.hid rd5
        clear rd5 hc5 new5 u5 hb5
        obtain ⟨ra, hra⟩ : ∃ x, rdA (wrM (ldM ps) 2 at_ bs) 0 at_ bs.length = x := ⟨_, rfl⟩
        rw [hra]
        clear hra
        go_wp2_with fail
        refine (Equal_bytes W5 A5 D bs bs c5 cd R5.out ((HBS.out.below HB5.out).rd) HBS.out.u8 HBS.out.u8).mono ?_
        rintro e W6 ⟨rfl, rfl⟩
        rw [show decide (bs = bs) = true from decide_eq_true rfl]
        go_wp2_with fail
        go_ret
        exact ⟨rfl, HB5.out⟩
    · have hcb2 : (bs.length : Int) > 2000 := by omega
      go_wp2_with fail
      refine HI.out.mono ?_
      rintro e W3 ⟨rfl, hb3⟩
      have HB3 := Lib.hid (bvia HB2.out hb3 (Nat.le_refl _))
      clear hb3
      go_wp2_with fail
      go_ret
      exact ⟨rfl, HB3.out⟩
  · cases hisp : isP ps with
    | false =>
      rw [hisp] at HI
      clear hisp hnot
      go_wp2_with fail
      refine HI.out.mono ?_
      rintro e W3 ⟨rfl, hb3⟩
      have HB3 := Lib.hid (bvia HB2.out hb3 (Nat.le_refl _))
      clear hb3
      go_wp2_with fail
      go_ret
      exact ⟨rfl, HB3.out⟩
    | true =>
      have hc20 : (ps.length : Int) > 20 := by
        rcases Nat.lt_or_ge 20 ps.length with h | h
        · omega
        · exact absurd ⟨h, hisp⟩ hnot
      rw [hisp] at HI
      clear hisp hnot
      go_wp2_with fail
      refine HI.out.mono ?_
      rintro e W3 ⟨rfl, hb3⟩
      have HB3 := Lib.hid (bvia HB2.out hb3 (Nat.le_refl _))
      clear hb3
      go_wp2_with fail
      go_ret
      exact ⟨rfl, HB3.out⟩
end Go.Proofs.Ytidojcogojchpaa

/- mem's laws: MemRights, in plain words. -/
set_option linter.unusedVariables false
set_option linter.unusedSimpArgs false
namespace Go.Proofs.Ytidojcogojchpaa
open Go.RowKit Go.Shelf

theorem belowBox {W W' : World} {b : Nat} {o : Obj} (hb : Below W.heap.size W W') (h : W.heap[b]? = some o) : W'.heap[b]? = some o := (hb.block b (Array.getElem?_eq_some_iff.1 h).1).trans h
theorem inL_one {ks : List Int} (h : Up ks) (p : Int) : inL ks p 1 = if p ∈ ks then [p] else [] := by
  unfold inL
  have e : ∀ k : Int, decide (p ≤ k ∧ k < p + 1) = (k == p) := fun k => by
    by_cases hk : k = p
    · subst hk; simp; omega
    · rw [decide_eq_false (by omega)]; simp [hk]
  simp only [e]
  by_cases hp : p ∈ ks
  · rw [if_pos hp]
    refine up_ext (h.sublist List.filter_sublist) (List.pairwise_singleton _ _) fun x => ?_
    simp only [List.mem_filter, List.mem_singleton, beq_iff_eq]
    exact ⟨fun hx => hx.2, fun hx => by subst hx; exact ⟨hp, rfl⟩⟩
  · rw [if_neg hp]
    refine List.filter_eq_nil_iff.2 fun x hx hc => hp ?_
    rw [← (beq_iff_eq.1 hc)]; exact hx
theorem or_fin : ∀ a b : Fin 8, 0 ≤ bits .or .i64 (a.val : Int) (b.val : Int) ∧ bits .or .i64 (a.val : Int) (b.val : Int) ≤ 7 ∧ ∀ c : Fin 5, bits .and .i64 (a.val : Int) (c.val : Int) = c.val → bits .and .i64 (bits .or .i64 (a.val : Int) (b.val : Int)) (c.val : Int) = c.val := of_decide_eq_true (by kernel_rfl)
theorem or_rights {a b : Int} (ha : 0 ≤ a ∧ a ≤ 7) (hb : 0 ≤ b ∧ b ≤ 7) : (0 ≤ bits .or .i64 a b ∧ bits .or .i64 a b ≤ 7) ∧ ∀ c : Int, 0 ≤ c → c ≤ 4 → bits .and .i64 a c = c → bits .and .i64 (bits .or .i64 a b) c = c := by
  have h := or_fin ⟨a.toNat, by omega⟩ ⟨b.toNat, by omega⟩
  simp only [Int.toNat_of_nonneg ha.1, Int.toNat_of_nonneg hb.1] at h
  refine ⟨⟨h.1, h.2.1⟩, fun c c0 c1 => ?_⟩
  have := h.2.2 ⟨c.toNat, by omega⟩
  simpa only [Int.toNat_of_nonneg c0] using this
/-- The same bytes; rights at least. -/
structure LeR (A K : PM) : Prop where
  ks : K.ks = A.ks
  bs : ∀ n ∈ A.ks, (K.pg n).bs = (A.pg n).bs
  rt : ∀ n ∈ A.ks, ∀ c : Int, 0 ≤ c → c ≤ 4 → bits .and .i64 (A.pg n).r c = c → bits .and .i64 (K.pg n).r c = c
section
variable {A K : PM}
theorem LeR.ok (h : LeR A K) {need a : Int} (hn : 0 ≤ need ∧ need ≤ 4) (ho : okA A need a) : okA K need a := ⟨by rw [h.ks]; exact ho.1, h.rt _ ho.1 need hn.1 hn.2 ho.2⟩
theorem LeR.all (h : LeR A K) {need at_ n : Int} (hn : 0 ≤ need ∧ need ≤ 4) (ho : allOk A need at_ n) : allOk K need at_ n := fun i i0 i1 => h.ok hn (ho i i0 i1)
theorem rd_true {need at_ n : Int} (h : rdB A need at_ n = true) : allOk A need at_ n ∧ 0 ≤ n ∧ n ≤ 65536 := by
  unfold rdB at h
  split at h
  · cases h
  · exact ⟨firstBad_all (by simpa using h), by omega, by omega⟩
theorem LeR.bytes (h : LeR A K) {need at_ : Int} {n : Nat} (ho : allOk A need at_ n) : bytesN K at_ n = bytesN A at_ n := by
  unfold bytesN byteAt
  refine List.map_congr_left fun i hi => ?_
  have hi' : i < n := by simpa using hi
  rw [h.bs _ (ho i (by omega) (by omega)).1]
theorem LeR.rd (h : LeR A K) {need at_ n : Int} (hn : 0 ≤ need ∧ need ≤ 4) (hr : rdB A need at_ n = true) : rdB K need at_ n = true ∧ rdL K need at_ n = rdL A need at_ n := by
  obtain ⟨ho, h0, h1⟩ := rd_true hr
  obtain ⟨m, rfl⟩ : ∃ m : Nat, n = m := ⟨n.toNat, by omega⟩
  obtain ⟨a1, a2, a3⟩ := rd_ok h0 h1 ho
  obtain ⟨b1, b2, b3⟩ := rd_ok h0 h1 (h.all hn ho)
  refine ⟨b2, b3.trans (Eq.trans ?_ a3.symm)⟩
  rw [Int.toNat_natCast]
  exact h.bytes ho
theorem LeR.wr (h : LeR A K) {need at_ : Int} {n : Nat} (hn : 0 ≤ need ∧ need ≤ 4) (hr : wrB A need at_ n = true) : wrB K need at_ n = true := by
  obtain ⟨ho, h1⟩ := wr_true hr
  exact (wr_ok h1 (h.all hn ho)).2
theorem diff_nil (hk : K.ks = A.ks) (hb : ∀ n ∈ A.ks, (K.pg n).bs = (A.pg n).bs) : diffL A K = [] := by
  have hu : ∀ n ∈ uni A.ks K.ks, n ∈ A.ks := fun n hn => by
    rw [uni_mem, hk] at hn
    rcases hn with h | h <;> exact h
  have hp : posA A K (uni A.ks K.ks) = [] := by
    unfold posA
    refine List.flatMap_eq_nil_iff.2 fun n hn => ?_
    have hm := hu n hn
    unfold posP
    rw [List.filter_eq_nil_iff.2 fun j _ => ?_]
    · rfl
    · unfold dif
      rw [decide_eq_true hm, hk, decide_eq_true hm, hb n hm, decide_eq_true rfl]
      simp
  unfold diffL
  rw [hp]; rfl
theorem LeR.diff (h : LeR A K) : diffL A K = [] := diff_nil h.ks h.bs
theorem LeR.wdiff (h : LeR A K) {need at_ : Int} {bs : List Int} (hn : 0 ≤ need ∧ need ≤ 4) (hr : wrB A need at_ bs.length = true) : diffL (wrM A need at_ bs) (wrM K need at_ bs) = [] := by
  have e1 : wrM A need at_ bs = A.poke at_ bs bs.length := if_pos hr
  have e2 : wrM K need at_ bs = K.poke at_ bs bs.length := if_pos (h.wr hn hr)
  rw [e1, e2]
  refine diff_nil h.ks fun n hm => ?_
  have hm' : n ∈ A.ks := hm
  show pokeB K at_ bs bs.length n = pokeB A at_ bs bs.length n
  unfold pokeB
  rw [h.bs n hm']
/-- What Protect of one page with more rights does. -/
theorem pro_more (hu : Up A.ks) (hrng : ∀ n ∈ A.ks, 0 ≤ n ∧ n < 16777216) (hr : ∀ n ∈ A.ks, 0 ≤ (A.pg n).r ∧ (A.pg n).r ≤ 7) {p more : Int} (hm : 0 ≤ more ∧ more ≤ 7) (hp : p ∈ A.ks) :
    proR A p 1 (bits .or .i64 (A.pg p).r more) = 0 ∧ LeR A (proA A p 1 (bits .or .i64 (A.pg p).r more)) := by
  obtain ⟨⟨o0, o1⟩, oc⟩ := or_rights (hr p hp) hm
  obtain ⟨x, hx⟩ : ∃ x, bits .or .i64 (A.pg p).r more = x := ⟨_, rfl⟩
  rw [hx] at o0 o1 oc ⊢
  have hw : withinB p 1 = true := decide_eq_true (by have := hrng p hp; omega)
  have h0 : proR A p 1 x = 0 := by
    unfold proR
    rw [hw, if_neg (by simp; omega), inL_one hu, if_pos hp, if_neg (by simp)]
  refine ⟨h0, ?_⟩
  have e : proA A p 1 x = A.prot1 x p := by
    unfold proA
    rw [if_pos h0, inL_one hu, if_pos hp]; rfl
  rw [e]
  refine ⟨rfl, fun n hn => ?_, fun n hn c c0 c1 hc => ?_⟩
  · show (updPg A.pg p ⟨x, (A.pg p).bs⟩ n).bs = _
    by_cases hnp : n = p
    · subst hnp; rw [updPg_same]
    · rw [updPg_ne hnp]
  · show bits .and .i64 (updPg A.pg p ⟨x, (A.pg p).bs⟩ n).r c = c
    by_cases hnp : n = p
    · subst hnp; rw [updPg_same]; exact oc c c0 c1 hc
    · rw [updPg_ne hnp]; exact hc
theorem pro_none (hu : Up A.ks) {p x : Int} (hp : p ∉ A.ks) : proR A p 1 x = 1 ∨ proR A p 1 x = 5 := by
  unfold proR
  split
  · exact .inl rfl
  · rw [inL_one hu, if_neg hp, if_pos (by simp)]; exact .inr rfl
end
theorem M1.Rights {B : Nat} {W : World} {b : Nat} {A : PM} (h : M1 B W b A) (n : Int) :
    Calls Try.prog 28 #[.pointer (some ⟨b, 0, none⟩), .int .i64 n] W fun e w' => e = .returned (.tuple #[.int .i64 (if n ∈ A.ks then (A.pg n).r else 0), .bool (decide (n ∈ A.ks))]) ∧ W = w' := by
  obtain ⟨S, h1, _⟩ := h.ex
  exact Rights_any W b S A n h1.mem
theorem M1.up {B : Nat} {W : World} {b : Nat} {A : PM} (h : M1 B W b A) : Up A.ks := by
  obtain ⟨S, h1, _⟩ := h.ex
  exact h1.mem.up
theorem M1.rng {B : Nat} {W : World} {b : Nat} {A : PM} (h : M1 B W b A) : ∀ n ∈ A.ks, 0 ≤ n ∧ n < 16777216 := by
  obtain ⟨S, h1, _⟩ := h.ex
  exact h1.mem.rng
theorem M1.len {B : Nat} {W : World} {b : Nat} {A : PM} (h : M1 B W b A) : A.ks.length ≤ 2000 := by
  obtain ⟨S, h1, _⟩ := h.ex
  exact h1.mem.le
theorem M2.upd_low {B : Nat} {W W' : World} {b c x : Nat} {A C : PM} (h : M2 B W b A c C) (hu : Upd (fun k => k = x) W W') (hx : x < B) : M2 B W' b A c C := by
  obtain ⟨S, T, h1, h2, h3, h4, h5, h6⟩ := h.ex
  exact ⟨S, T, ⟨h1.mem.upd hu fun k hk e => by have := h3 k hk; omega, h1.bp⟩, ⟨h2.mem.upd hu fun k hk e => by have := h4 k hk; omega, h2.bp⟩, h3, h4, h5, h6⟩
end Go.Proofs.Ytidojcogojchpaa

/- mem's laws: MemRights. -/
set_option linter.unusedVariables false
set_option linter.unusedSimpArgs false
namespace Go.Proofs.Ytidojcogojchpaa
open Go.RowKit Go.Shelf

/-- What the loop carries. -/
structure RgI (w : World) (B b c bx g : Nat) (A C : PM) (pg n rt a : Int) (vb : Value) (V : World) : Prop where
  m : M2 B V b A c C
  box : ∃ kd, V.heap[bx]? = some (.cells #[.int .i64 kd, .int .i64 pg, .int .i64 n, .int .i64 rt, .int .u32 a, vb] 54 (0, 0))
  lit : V.heap[g]? = some (.cells #[.int .i64 3, .int .i64 4, .int .i64 5, .int .i64 6] 3 (0, 0))
  below : Below w.heap.size w V
set_option maxRecDepth 1000000 in
set_option maxHeartbeats 8000000 in
theorem rights_any (A : Option Addr) (c : Nat) (ps : List PV) (page n0 more : Int) (X : CV) (w : World) (hp : PsIn w A c ps) (hx : COk w X) :
    Calls Try.prog 5 #[.slice A ps.length c, .int .i64 page, .int .i64 n0, .int .i64 more, .agg X.cells.toArray] w fun e w' => e = .returned (.bool true) ∧ Below w.heap.size w w' := by
  obtain ⟨kind, pg, n, rt, a, Ab, cb, bs⟩ := X
  have HP := Lib.hid hp
  have HX := Lib.hid hx
  have hlen := hp.rd.le
  have hcb := hx.bs.cap
  have hlb := hx.bs.le
  clear hp hx
  obtain ⟨W0, hW0⟩ : ∃ W0, w.alloc (.cells #[.int .i64 kind, .int .i64 pg, .int .i64 n, .int .i64 rt, .int .u32 a, .slice Ab bs.length cb] 54) = W0 := ⟨_, rfl⟩
  have hb0 : Below w.heap.size w W0 := by rw [← hW0]; exact balloc _ _
  have h0 : W0.heap[w.heap.size]? = some (.cells #[.int .i64 kind, .int .i64 pg, .int .i64 n, .int .i64 rt, .int .u32 a, .slice Ab bs.length cb] 54 (0, 0)) := by rw [← hW0]; exact heap_alloc_new _ _
  have HB0 := Lib.hid hb0
  have HX0 := Lib.hid h0
  clear hb0 h0
  simp only [CV.cells]
  go_enter Try.func5, Try.ntmps5
  go_wp2_with fail
  refine (sane_any W0).mono ?_
  rintro e W1 ⟨rfl, hb1⟩
  have HB1 := Lib.hid (bvia HB0.out hb1 (Nat.le_refl _))
  have HX1 := Lib.hid (belowBox hb1 HX0.out)
  have hs1 : w.heap.size < W1.heap.size := (Array.getElem?_eq_some_iff.1 HX1.out).1
  clear hb1 HX0 HB0
  have HP1 := Lib.hid (HP.out.below HB1.out)
  go_wp2_with fail
  refine (loaded_any W1 A c ps HP1.out.rd HP1.out.by_ HP1.out.u8).mono ?_
  rintro e W2 ⟨hb2, hres⟩
  have HB2 := Lib.hid (bvia HB1.out hb2 (Nat.le_refl _))
  have hx2 := belowBox hb2 HX1.out
  have y2 : W2.cell? ⟨w.heap.size, 2, none⟩ = some (.int .i64 n) := by simp [World.cell?, hx2]
  have y5 : W2.cell? ⟨w.heap.size, 5, none⟩ = some (.slice Ab bs.length cb) := by simp [World.cell?, hx2]
  have HX2 := Lib.hid hx2
  clear hb2 hx2
  rcases hres with ⟨⟨hl20, hisp⟩, mb, rfl, hld⟩ | ⟨hnot, rfl⟩
  · have hc20 : ¬ (ps.length : Int) > 20 := by omega
    have HPO := Lib.hid (psOk_of hisp HP1.out.u8 (by omega))
    have HM := Lib.hid hld.m1.1
    have HISP := Lib.hid hisp
    clear hisp hld
    by_cases hn1 : n > 2000
    · skip
      have HI := Lib.hid (IsPages_any W2 A c ps (HP.out.below HB2.out).rd)
      rw [HISP.out] at HI
      go_wp2_with fail
      refine HI.out.mono ?_
      rintro e W3 ⟨rfl, hb3⟩
      have HB3 := Lib.hid (bvia HB2.out hb3 (Nat.le_refl _))
      have hx3 := belowBox hb3 HX2.out
      have z2 : W3.cell? ⟨w.heap.size, 2, none⟩ = some (.int .i64 n) := by simp [World.cell?, hx3]
      have z5 : W3.cell? ⟨w.heap.size, 5, none⟩ = some (.slice Ab bs.length cb) := by simp [World.cell?, hx3]
      clear hb3 hx3 y2 y5
      go_wp2_with fail
      go_ret
      exact ⟨rfl, HB3.out⟩
    by_cases hn2 : (bs.length : Int) > 2000
    · skip
      have HI := Lib.hid (IsPages_any W2 A c ps (HP.out.below HB2.out).rd)
      rw [HISP.out] at HI
      go_wp2_with fail
      refine HI.out.mono ?_
      rintro e W3 ⟨rfl, hb3⟩
      have HB3 := Lib.hid (bvia HB2.out hb3 (Nat.le_refl _))
      have hx3 := belowBox hb3 HX2.out
      have z2 : W3.cell? ⟨w.heap.size, 2, none⟩ = some (.int .i64 n) := by simp [World.cell?, hx3]
      have z5 : W3.cell? ⟨w.heap.size, 5, none⟩ = some (.slice Ab bs.length cb) := by simp [World.cell?, hx3]
      clear hb3 hx3 y2 y5
      go_wp2_with fail
      go_ret
      exact ⟨rfl, HB3.out⟩
    have HUP := Lib.hid HM.out.up
    have HRN := Lib.hid HM.out.rng
    have HRT := Lib.hid HM.out.rights
    have HRG := Lib.hid (HM.out.Rights page)
    by_cases hpg : page ∈ (ldM ps).ks
    · skip
      rw [if_pos hpg, decide_eq_true hpg] at HRG
      have HPG := Lib.hid hpg
      obtain ⟨old, hold⟩ : ∃ x, ((ldM ps).pg page).r = x := ⟨_, rfl⟩
      rw [hold] at HRG
      have HOLD := Lib.hid hold
      clear hpg hold
      go_wp2_with fail
      refine HRG.out.mono ?_
      rintro e W3 ⟨rfl, rfl⟩
      clear HRG
      go_wp2_with fail
      refine (HM.out.Clone).mono ?_
      rintro e W4 ⟨kb, rfl, m4, hb4⟩
      have HM4 := Lib.hid m4
      have HB4 := Lib.hid (HB2.out.trans (hb4.mono (by omega)))
      have HX4 := Lib.hid (show W4.heap[w.heap.size]? = _ from (hb4.block _ hs1).trans HX2.out)
      clear m4 hb4 y2 y5
      by_cases q1 : more < 0
      · go_wp2_with fail
        go_ret
        exact ⟨rfl, HB4.out⟩
      by_cases q2 : more > 7
      · go_wp2_with fail
        go_ret
        exact ⟨rfl, HB4.out⟩
      go_wp2_with fail
      refine (HM4.out.Protect page 1 (bits .or .i64 old more)).mono ?_
      rintro e W5 ⟨rfl, m5, hb5⟩
      obtain ⟨hz, hle⟩ := pro_more HUP.out HRN.out HRT.out (p := page) (more := more) ⟨by omega, by omega⟩ HPG.out
      rw [HOLD.out] at hz hle
      rw [hz]
      obtain ⟨K, hK⟩ : ∃ K, proA (ldM ps) page 1 (bits .or .i64 old more) = K := ⟨_, rfl⟩
      rw [hK] at m5 hle
      have HLE := Lib.hid hle
      have HM5 := Lib.hid m5
      have HB5 := Lib.hid (HB4.out.trans (hb5.mono (by omega)))
      have HX5 := Lib.hid (show W5.heap[w.heap.size]? = _ from (hb5.block _ hs1).trans HX4.out)
      clear m5 hb5 hz hle hK HX4 HM4 HB4
      obtain ⟨W6, hW6⟩ : ∃ W6, W5.alloc (.cells #[.int .i64 3, .int .i64 4, .int .i64 5, .int .i64 6] 3) = W6 := ⟨_, rfl⟩
      have hb6 : Below W5.heap.size W5 W6 := by rw [← hW6]; exact balloc _ _
      have HR6 : Hid (RgI w W1.heap.size mb kb w.heap.size W5.heap.size (ldM ps) K pg n rt a (.slice Ab bs.length cb) W6) := Lib.hid ⟨HM5.out.below hb6, ⟨_, belowBox hb6 HX5.out⟩, by rw [← hW6]; exact heap_alloc_new _ _, bvia HB5.out hb6 (Nat.le_refl _)⟩
      have hgb : w.heap.size < W5.heap.size := (Array.getElem?_eq_some_iff.1 HX5.out).1
      obtain ⟨g, hg⟩ : ∃ g, W5.heap.size = g := ⟨_, rfl⟩
      rw [hg] at HR6 hgb
      clear hb6
      go_wp2_with fail
      clear hW6 hg HM5 HX5 HB5
      go_loopw [104] (fun i wr => ∃ k : Nat, k ≤ 4 ∧ i = .int .i64 k ∧ Hid (RgI w W1.heap.size mb kb w.heap.size g (ldM ps) K pg n rt a (.slice Ab bs.length cb) wr)) (fun i _ => 4 - (intOf i).toNat)
      case atStart => exact ⟨0, Nat.zero_le _, rfl, HR6⟩
      case round =>
        obtain ⟨k, hk, rfl, hI⟩ := hrel
        obtain ⟨mr, ⟨kd0, hbx⟩, hlit, hbr⟩ := hI.out
        by_cases hlt : k < 4
        · obtain ⟨kd, hkd, hcl, hnd⟩ : ∃ kd : Int, (wr.cell? ⟨g, k, none⟩ = some (.int .i64 kd)) ∧ wr.cell? ((⟨g, 0, none⟩ : Addr).add k) = some (.int .i64 kd) ∧ 0 ≤ needK kd ∧ needK kd ≤ 4 := by
            have h4 : k = 0 ∨ k = 1 ∨ k = 2 ∨ k = 3 := by omega
            rcases h4 with rfl | rfl | rfl | rfl
            · exact ⟨3, by simp [World.cell?, hlit], by simp [World.cell?, hlit, Addr.add], by decide⟩
            · exact ⟨4, by simp [World.cell?, hlit], by simp [World.cell?, hlit, Addr.add], by decide⟩
            · exact ⟨5, by simp [World.cell?, hlit], by simp [World.cell?, hlit, Addr.add], by decide⟩
            · exact ⟨6, by simp [World.cell?, hlit], by simp [World.cell?, hlit, Addr.add], by decide⟩
          have HMr := Lib.hid mr
          have HLr := Lib.hid hlit
          have HBr := Lib.hid hbr
          have x0 : wr.cell? ⟨w.heap.size, 0, none⟩ = some (.int .i64 kd0) := by simp [World.cell?, hbx]
          have xd : ∀ o, wr.frozen? ⟨w.heap.size, o, none⟩ = false := fun o => by simp [World.frozen?, hbx]
          obtain ⟨W7, hW7⟩ : ∃ W7, wr.setCell ⟨w.heap.size, 0, none⟩ (.int .i64 kd) = W7 := ⟨_, rfl⟩
          have hu7 : Upd (fun k => k = w.heap.size) wr W7 := by rw [← hW7]; exact Upd.setCell wr ⟨w.heap.size, 0, none⟩ _
          have hx7 : W7.heap[w.heap.size]? = some (.cells #[.int .i64 kd, .int .i64 pg, .int .i64 n, .int .i64 rt, .int .u32 a, .slice Ab bs.length cb] 54 (0, 0)) := by rw [← hW7, setCell_row hbx]; rfl
          have y0 : W7.cell? ⟨w.heap.size, 0, none⟩ = some (.int .i64 kd) := by simp [World.cell?, hx7]
          have y1 : W7.cell? ⟨w.heap.size, 1, none⟩ = some (.int .i64 pg) := by simp [World.cell?, hx7]
          have y2 : W7.cell? ⟨w.heap.size, 2, none⟩ = some (.int .i64 n) := by simp [World.cell?, hx7]
          have y3 : W7.cell? ⟨w.heap.size, 3, none⟩ = some (.int .i64 rt) := by simp [World.cell?, hx7]
          have y4 : W7.cell? ⟨w.heap.size, 4, none⟩ = some (.int .u32 a) := by simp [World.cell?, hx7]
          have y5 : W7.cell? ⟨w.heap.size, 5, none⟩ = some (.slice Ab bs.length cb) := by simp [World.cell?, hx7]
          have HR7 : Hid (RgI w W1.heap.size mb kb w.heap.size g (ldM ps) K pg n rt a (.slice Ab bs.length cb) W7) := Lib.hid ⟨mr.upd_low hu7 (by omega), ⟨_, hx7⟩, by rw [hu7.block _ (Array.getElem?_eq_some_iff.1 hlit).1 (by omega)]; exact hlit, hbr.trans (hu7.below hbr.size fun k e => by omega)⟩
          clear mr hbx hlit hbr hI hu7
          go_wp2_with fail
          refine (HR7.out.m.fst.lread kd pg n rt a _ HX.out.at_).mono ?_
          rintro e W8 ⟨⟨A8, c8, rfl, rd8, hc8, new8⟩, hb8, u8⟩
          have hx8 := belowBox hb8 hx7
          have v0 : W8.cell? ⟨w.heap.size, 0, none⟩ = some (.int .i64 kd) := by simp [World.cell?, hx8]
          have v1 : W8.cell? ⟨w.heap.size, 1, none⟩ = some (.int .i64 pg) := by simp [World.cell?, hx8]
          have v2 : W8.cell? ⟨w.heap.size, 2, none⟩ = some (.int .i64 n) := by simp [World.cell?, hx8]
          have v3 : W8.cell? ⟨w.heap.size, 3, none⟩ = some (.int .i64 rt) := by simp [World.cell?, hx8]
          have v4 : W8.cell? ⟨w.heap.size, 4, none⟩ = some (.int .u32 a) := by simp [World.cell?, hx8]
          have v5 : W8.cell? ⟨w.heap.size, 5, none⟩ = some (.slice Ab bs.length cb) := by simp [World.cell?, hx8]
          have HR8 : Hid (RgI w W1.heap.size mb kb w.heap.size g (ldM ps) K pg n rt a (.slice Ab bs.length cb) W8) := Lib.hid ⟨HR7.out.m.below hb8, ⟨_, hx8⟩, belowBox hb8 HR7.out.lit, bvia HR7.out.below hb8 (Nat.le_refl _)⟩
          have HRD8 := Lib.hid rd8
          have HU8 := Lib.hid u8
          clear hx7 hx8 y0 y1 y2 y3 y4 y5 hb8 rd8 hc8 new8 u8 HMr HLr HBr hkd hcl x0 xd
          obtain ⟨ra, hra⟩ : ∃ x, rdA (ldM ps) (needK kd) a n = x := ⟨_, rfl⟩
          obtain ⟨rl, hrl⟩ : ∃ x, rdL (ldM ps) (needK kd) a n = x := ⟨_, rfl⟩
          have hrlen := HRD8.out.le
          rw [hrl] at HRD8 HU8 hrlen
          rw [hra, hrl]
          clear hra
          go_wp2_with fail
          refine (HR8.out.m.snd.lread kd pg n rt a _ HX.out.at_).mono ?_
          rintro e W9 ⟨⟨A9, c9, rfl, rd9, hc9, new9⟩, hb9, u9⟩
          have HR9 : Hid (RgI w W1.heap.size mb kb w.heap.size g (ldM ps) K pg n rt a (.slice Ab bs.length cb) W9) := by
            obtain ⟨q, e⟩ := HR8.out.box
            exact Lib.hid ⟨HR8.out.m.below hb9, ⟨q, belowBox hb9 e⟩, belowBox hb9 HR8.out.lit, bvia HR8.out.below hb9 (Nat.le_refl _)⟩
          have HRD8' := Lib.hid (HRD8.out.below hb9)
          have HRD9 := Lib.hid rd9
          clear hb9 rd9 hc9 new9 v0 v1 v2 v3 v4 v5
          obtain ⟨rb, hrb⟩ : ∃ x, rdA K (needK kd) a n = x := ⟨_, rfl⟩
          rw [hrb]
          clear hrb
          cases h1 : rdB (ldM ps) (needK kd) a n with
          | false =>
            obtain ⟨sb, hsb⟩ : ∃ x, rdB K (needK kd) a n = x := ⟨_, rfl⟩
            obtain ⟨sl, hsl⟩ : ∃ x, rdL K (needK kd) a n = x := ⟨_, rfl⟩
            rw [hsb, hsl]
            clear hsb hsl h1 hrl
            go_wp2_with fail
            go_roundw
            case rel => exact ⟨k + 1, by omega, by go_num, HR9⟩
            case measure => simp [intOf]; omega
          | true =>
            obtain ⟨h2, h3⟩ := HLE.out.rd hnd h1
            rw [hrl] at h3
            rw [h2, h3]
            rw [h3] at HRD9
            clear h1 h2 h3 hrl u9
            go_wp2_with fail
            refine (Equal_bytes W9 A8 A9 rl rl c8 c9 HRD8'.out HRD9.out HU8.out HU8.out).mono ?_
            rintro e W10 ⟨rfl, rfl⟩
            rw [show decide (rl = rl) = true from decide_eq_true rfl]
            go_wp2_with fail
            go_roundw
            case rel => exact ⟨k + 1, by omega, by go_num, HR9⟩
            case measure => simp [intOf]; omega
        · obtain rfl : k = 4 := by omega
          have HMr := Lib.hid mr
          have HBr := Lib.hid hbr
          have HXr := Lib.hid hbx
          clear mr hbx hlit hbr hI hlt hk
          obtain ⟨wl, hwl⟩ : ∃ wl, wl = wr := ⟨wr, rfl⟩
          rw [← hwl] at HMr HBr HXr ⊢
          clear hwl
          go_wp2_with fail
          refine (Diff_M HMr.out.fst HMr.out.snd).mono ?_
          rintro e W8 ⟨⟨A8, c8, rfl, rd8, new8⟩, hb8⟩
          rw [HLE.out.diff]
          have hx8 := belowBox hb8 HXr.out
          have v4 : W8.cell? ⟨w.heap.size, 4, none⟩ = some (.int .u32 a) := by simp [World.cell?, hx8]
          have v5 : W8.cell? ⟨w.heap.size, 5, none⟩ = some (.slice Ab bs.length cb) := by simp [World.cell?, hx8]
          have HM8 := Lib.hid (HMr.out.below hb8)
          have HB8 := Lib.hid (bvia HBr.out hb8 (Nat.le_refl _))
          have HX8 := Lib.hid hx8
          clear rd8 new8 hb8 hx8 HMr HBr HXr
          have HBS8 := Lib.hid (HX.out.bs.below HB8.out)
          have HAD : Hid (0 < bs.length → ∀ ad, Ab = some ad → ad.block < W1.heap.size) := Lib.hid fun h0 ad e => by have := HX.out.bs.rd.old (by rw [Nat.mul_one]; exact h0) ad e; omega
          go_wp2_with fail
          refine (HM8.out.symm.Write0 a bs Ab cb HX.out.at_ HX.out.bs.cap HBS8.out.rd HX.out.bs.u8 HAD.out).mono ?_
          rintro e W9 ⟨rfl, m9, hb9⟩
          have HM9 := Lib.hid m9.symm
          have HB9 := Lib.hid (HB8.out.trans (hb9.mono (by omega)))
          have hx9 : W9.heap[w.heap.size]? = _ := (hb9.block _ hs1).trans HX8.out
          have u4 : W9.cell? ⟨w.heap.size, 4, none⟩ = some (.int .u32 a) := by simp [World.cell?, hx9]
          have u5 : W9.cell? ⟨w.heap.size, 5, none⟩ = some (.slice Ab bs.length cb) := by simp [World.cell?, hx9]
          have HBS9 := Lib.hid (HX.out.bs.below HB9.out)
          obtain ⟨z1, hz1⟩ : ∃ z, wrA (ldM ps) 2 a bs.length = z := ⟨_, rfl⟩
          rw [hz1]
          clear m9 hb9 hx9 v4 v5 HM8 HB8 HX8 hz1
          go_wp2_with fail
          refine (HM9.out.Write0 a bs Ab cb HX.out.at_ HX.out.bs.cap HBS9.out.rd HX.out.bs.u8 HAD.out).mono ?_
          rintro e W10 ⟨rfl, m10, hb10⟩
          have HM10 := Lib.hid m10
          have HB10 := Lib.hid (HB9.out.trans (hb10.mono (by omega)))
          obtain ⟨z2, hz2⟩ : ∃ z, wrA K 2 a bs.length = z := ⟨_, rfl⟩
          rw [hz2]
          clear m10 hb10 u4 u5 HM9 HB9 hz2
          cases h1 : wrB (ldM ps) 2 a bs.length with
          | false =>
            obtain ⟨z3, hz3⟩ : ∃ z, wrB K 2 a bs.length = z := ⟨_, rfl⟩
            rw [hz3]
            clear hz3 h1
            go_wp2_with fail
            go_ret
            exact ⟨rfl, HB10.out⟩
          | true =>
            rw [HLE.out.wr ⟨by omega, by omega⟩ h1]
            have HD := Lib.hid (HLE.out.wdiff ⟨by omega, by omega⟩ h1)
            clear h1
            go_wp2_with fail
            refine (Diff_M HM10.out.fst HM10.out.snd).mono ?_
            rintro e W11 ⟨⟨A11, c11, rfl, rd11, new11⟩, hb11⟩
            rw [HD.out]
            have HB11 := Lib.hid (bvia HB10.out hb11 (Nat.le_refl _))
            clear rd11 new11 hb11
            go_wp2_with fail
            go_ret
            exact ⟨rfl, HB11.out⟩
    · skip
      rw [if_neg hpg, decide_eq_false hpg] at HRG
      have HPG := Lib.hid hpg
      clear hpg
      go_wp2_with fail
      refine HRG.out.mono ?_
      rintro e W3 ⟨rfl, rfl⟩
      clear HRG
      go_wp2_with fail
      refine (HM.out.Clone).mono ?_
      rintro e W4 ⟨kb, rfl, m4, hb4⟩
      have HM4 := Lib.hid m4
      have HB4 := Lib.hid (HB2.out.trans (hb4.mono (by omega)))
      have HX4 := Lib.hid (show W4.heap[w.heap.size]? = _ from (hb4.block _ hs1).trans HX2.out)
      clear m4 hb4 y2 y5
      by_cases q1 : more < 0
      · go_wp2_with fail
        go_ret
        exact ⟨rfl, HB4.out⟩
      by_cases q2 : more > 7
      · go_wp2_with fail
        go_ret
        exact ⟨rfl, HB4.out⟩
      go_wp2_with fail
      refine (HM4.out.Protect page 1 (bits .or .i64 0 more)).mono ?_
      rintro e W5 ⟨rfl, m5, hb5⟩
      have hne := pro_none HUP.out (x := bits .or .i64 0 more) HPG.out
      have HB5 := Lib.hid (HB4.out.trans (hb5.mono (by omega)))
      clear m5 hb5
      rcases hne with hz | hz
      all_goals
        rw [hz]
        clear hz
        go_wp2_with fail
        go_ret
        exact ⟨rfl, HB5.out⟩
  · have HI := Lib.hid (IsPages_any W2 A c ps (HP.out.below HB2.out).rd)
    cases hisp : isP ps with
    | false =>
      rw [hisp] at HI
      clear hisp hnot
      go_wp2_with fail
      refine HI.out.mono ?_
      rintro e W3 ⟨rfl, hb3⟩
      have HB3 := Lib.hid (bvia HB2.out hb3 (Nat.le_refl _))
      clear hb3
      go_wp2_with fail
      go_ret
      exact ⟨rfl, HB3.out⟩
    | true =>
      have hc20 : (ps.length : Int) > 20 := by
        rcases Nat.lt_or_ge 20 ps.length with h | h
        · omega
        · exact absurd ⟨h, hisp⟩ hnot
      rw [hisp] at HI
      clear hisp hnot
      go_wp2_with fail
      refine HI.out.mono ?_
      rintro e W3 ⟨rfl, hb3⟩
      have HB3 := Lib.hid (bvia HB2.out hb3 (Nat.le_refl _))
      clear hb3
      go_wp2_with fail
      go_ret
      exact ⟨rfl, HB3.out⟩
end Go.Proofs.Ytidojcogojchpaa
