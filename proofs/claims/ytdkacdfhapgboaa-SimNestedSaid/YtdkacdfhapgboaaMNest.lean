/- SimNested: nested calls and returns. -/
import Derived.Test.YtdkacdfhapgboaaM11
import Derived.Maps.AppendAt
import Derived.WalkSmall
import Derived.IntWalk
import Derived.Deep.CutRange
set_option linter.unusedVariables false
set_option linter.unusedSimpArgs false
namespace Go.Proofs.Ytdkacdfhapgboaa
open Go.RowKit

/-- What the loop of SimNested carries: the open calls, and a predictor that has them on its stack. -/
structure NRel (w : World) (b6 : Nat) (n : Int) (os : List Int) (v : Value) (wr : World) : Prop where
  own : wr.ownsRow w.heap.size 30 1 v os.length (nums .u32 os)
  box : ∃ g c R rc, wr.heap[b6]? = some (.cells #[.int .i64 0, .int .i64 0, .int .i64 n, .slice (some ⟨g, 0, none⟩) 1 c, .int .u32 0, .slice R os.length rc] 52 (0, 0)) ∧ ∀ W2, Upd (fun k => k = b6 ∨ v.ownBlock = some k) wr W2 → RdP W2 (some ⟨g, 0, none⟩) c [1] R rc os
  ne : ∀ k, v.ownBlock = some k → k ≠ b6
  below : Below w.heap.size w wr
  base : w.heap.size ≤ b6
  len : (os.length : Int) ≤ n ∧ os.length ≤ 200
  u32 : ∀ x ∈ os, 0 ≤ x ∧ x < 4294967296
theorem predN {n : Int} (h : 1 ≤ n ∧ n ≤ 32) (os : List Int) (ho : (os.length : Int) ≤ n) : predOk 0 0 n [1] 0 os := by
  refine ⟨?_, by kernel_rfl, by kernel_rfl, by decide, ho⟩
  simp [predShapeB]
  omega

attribute [local irreducible] World.setCell in
set_option maxRecDepth 100000 in
set_option maxHeartbeats 4000000 in
theorem nested_any (deep : Int) (hd : 0 ≤ deep ∧ deep < 256) (A : Option Addr) (xs : List Int) (cap : Nat) (w : World) (hr : RdI w .u32 A xs.length xs) (hu : ∀ x ∈ xs, 0 ≤ x ∧ x < 4294967296) (hm : xs.length ≤ 9223372036854775807) :
    Calls Try.prog 9 #[.int .u8 deep, .slice A xs.length cap] w fun e w' => e = .returned (.bool true) ∧ Below w.heap.size w w' := by
  obtain ⟨d1, d2⟩ := hd
  have HR := Lib.hid hr
  have HU := Lib.hid hu
  clear hr hu
  by_cases hlen : 200 < xs.length
  · go_enter Try.func9, Try.ntmps9
    go_wp2_with fail
    refine (sane_any _).mono ?_
    rintro e W ⟨rfl, hb⟩
    go_wp2
    go_ret
    exact ⟨rfl, hb⟩
  · obtain ⟨z, hz⟩ : ∃ z, deep % 32 = z := ⟨_, rfl⟩
    have hz1 : deep.tmod 32 = z := by rw [Int.tmod_eq_emod_of_nonneg d1, hz]
    have hz2 : 0 ≤ z ∧ z < 32 := by omega
    obtain ⟨z1, z2⟩ := hz2
    obtain ⟨n, hn⟩ : ∃ n, 1 + z = n := ⟨_, rfl⟩
    have hn2 : 1 ≤ n ∧ n ≤ 32 := by omega
    have HN2 := Lib.hid hn2
    have HZ := Lib.hid hz
    clear hz hn2
    go_enter Try.func9, Try.ntmps9
    go_wp2_with fail
    refine (NewPred_ok 0 0 n (by have := HN2.out; simp [predShapeB]; omega) _).mono ?_
    rintro e W1 H
    obtain ⟨gp, rfl, ho, hb⟩ := H
    obtain ⟨V1, hV1⟩ : ∃ V, W1.alloc (.cells #[.int .i64 0, .int .i64 0, .int .i64 n, .slice (some ⟨gp, 0, none⟩) 1 1, .int .u32 0, .slice none 0 0] 52) = V := ⟨_, rfl⟩
    have hbv : Below W1.heap.size W1 V1 := by rw [← hV1]; exact balloc _ _
    have hx1 : V1.heap[W1.heap.size]? = some (.cells #[.int .i64 0, .int .i64 0, .int .i64 n, .slice (some ⟨gp, 0, none⟩) 1 1, .int .u32 0, .slice none 0 0] 52 (0, 0)) := by rw [← hV1]; exact heap_alloc_new _ _
    have hst : ∀ W2, Upd (fun k => k = W1.heap.size ∨ (Value.slice none 0 0).ownBlock = some k) V1 W2 → RdP W2 (some ⟨gp, 0, none⟩) 1 [1] none 0 [] := fun W2 hu => by
      have h1 := own_upd (own_upd ho (Upd.of_below hbv) fun k hk e => by have := (ho.lt k hk).2; omega) hu fun k hk e => by
        have h2 := (ho.lt k hk).2
        rcases e with e | e
        · omega
        · simp [Value.ownBlock] at e
      obtain ⟨A, c, e, hr⟩ := own_rd h1
      cases e
      exact ⟨hr, fun h => (by cases h), Nat.le_refl _, rdI_nil _ _, fun _ => rfl, Nat.le_refl _⟩
    have HREL : Hid (NRel w W1.heap.size n [] (.slice none 0 0) V1) := Lib.hid ⟨World.ownsRow_nil _ _ _ _, ⟨gp, 1, none, 0, hx1, hst⟩, fun k hk => by simp [Value.ownBlock] at hk, bvia hb hbv (Nat.le_refl _), hb.size, ⟨by have := HN2.out; simp; omega, by simp⟩, fun x hx => absurd hx (by simp)⟩
    have HV1 := Lib.hid hV1
    clear ho hb hV1 hbv hx1 hst
    go_wp2_with fail
    rw [HV1.out]
    go_loopw [7, 8, 30] (fun e v i wr => ∃ (k : Nat) (os : List Int) (Av : Option Addr) (cv : Nat), k ≤ xs.length ∧ i = .int .i64 k ∧ e = .int .i64 0 ∧ v = .slice Av os.length cv ∧ Hid (NRel w W1.heap.size n os (.slice Av os.length cv) wr ∧ os.length ≤ k)) (fun e v i _ => xs.length - (intOf i).toNat)
    case atStart => exact ⟨0, [], none, 0, Nat.zero_le _, rfl, rfl, rfl, Lib.hid ⟨HREL.out, Nat.le_refl _⟩⟩
    case round =>
      obtain ⟨k, os, Av, cv, hk, rfl, rfl, rfl, hI⟩ := hrel
      by_cases hlt : k < xs.length
      · obtain ⟨hN, hol⟩ := hI.out
        have HN := Lib.hid hN
        obtain ⟨ad, e0, x0⟩ := (Rd.below HR.out hN.below |> fun h => (h : RdI wr .u32 A xs.length xs)).at k hlt
        subst e0
        obtain ⟨x, hx⟩ : ∃ x, gi xs k = x := ⟨_, rfl⟩
        have hxu := HU.out _ (gi_mem xs k hlt)
        rw [hx] at x0 hxu
        obtain ⟨hx1, hx2⟩ := hxu
        have hol2 := hN.len.2
        clear hx hI hN
        obtain ⟨p, hp⟩ : ∃ p, x % 2 = p := ⟨_, rfl⟩
        have hp1 : x.tmod 2 = p := by rw [Int.tmod_eq_emod_of_nonneg hx1, hp]
        obtain ⟨g, c, R, rc, hbx, hst⟩ := HN.out.box
        obtain ⟨y0, y1, y2, y3, y4, y5, yd⟩ := box6 hbx
        have HBX := Lib.hid hbx
        have HST := Lib.hid hst
        clear hbx hst
        by_cases hpush : p = 0 ∧ (os.length : Int) < n
        · obtain ⟨rfl, hroom⟩ := hpush
          have hcl := callL_room n os x hroom
          have HCL := Lib.hid hcl
          clear hcl
          go_wp2_with fail
          refine (Call_ok 0 0 n (some ⟨g, 0, none⟩) R c rc [1] os 0 x wr (HST.out wr (Upd.refl _ _)) (predN HN2.out os (by omega)) ⟨by omega, by omega⟩).mono ?_
          rintro e W2 ⟨u, rfl, hpi, hb2⟩
          rw [HCL.out] at hpi
          obtain ⟨g2, c2, R2, rc2, rfl, hrd⟩ := hpi.rd
          have hlen1 : (os ++ [x]).length = os.length + 1 := by simp
          rw [hlen1]
          have hbl := (Array.getElem?_eq_some_iff.1 HBX.out).1
          have hbx2 := belowBox hb2 HBX.out
          obtain ⟨V2, hV2⟩ : ∃ V, (((((W2.setCell ⟨W1.heap.size, 0, none⟩ (.int .i64 0)).setCell ⟨W1.heap.size, 1, none⟩ (.int .i64 0)).setCell ⟨W1.heap.size, 2, none⟩ (.int .i64 n)).setCell ⟨W1.heap.size, 3, none⟩ (.slice (some ⟨g2, 0, none⟩) 1 c2)).setCell ⟨W1.heap.size, 4, none⟩ (.int .u32 0)).setCell ⟨W1.heap.size, 5, none⟩ (.slice R2 (os.length + 1) rc2) = V := ⟨_, rfl⟩
          have hu2 : Upd (fun k => k = W1.heap.size) W2 V2 := by
            rw [← hV2]
            (repeat refine Upd.set ?_ (by rfl) _ _)
            exact Upd.refl _ _
          have hx2 : V2.heap[W1.heap.size]? = some (.cells #[.int .i64 0, .int .i64 0, .int .i64 n, .slice (some ⟨g2, 0, none⟩) 1 c2, .int .u32 0, .slice R2 (os.length + 1) rc2] 52 (0, 0)) := by rw [← hV2]; exact set6_heap hbx2 _ _ _ _ _ _
          obtain ⟨x0', x1', x2', x3', x4', x5', xd⟩ := box6 hbx2
          have hown2 := own_upd (own_upd HN.out.own (Upd.of_below hb2) fun k hk e => by have := (HN.out.own.lt k hk).2; omega) hu2 fun k hk e => HN.out.ne k hk e
          obtain ⟨V3, hV3⟩ : ∃ V, V2.alloc (.cells #[.int .u32 x] 30) = V := ⟨_, rfl⟩
          have hb3 : Below V2.heap.size V2 V3 := by rw [← hV3]; exact balloc _ _
          have hx3 : V3.heap[V2.heap.size]? = some (.cells #[.int .u32 x] 30 (0, 0)) := by rw [← hV3]; exact heap_alloc_new _ _
          have hs3 : V3.heap.size = V2.heap.size + 1 := by rw [← hV3]; simp
          have HOWN := Lib.hid (own_upd hown2 (Upd.of_below hb3) fun k hk e => by have := (hown2.lt k hk).2; omega)
          have HX3 := Lib.hid hx3
          have HXB3 := Lib.hid (belowBox hb3 hx2)
          have HU2 := Lib.hid hu2
          have HB2 := Lib.hid hb2
          have HB3 := Lib.hid hb3
          have HRD := Lib.hid hrd
          have HS3 := Lib.hid hs3
          have hbase : w.heap.size ≤ V3.heap.size := by have := HN.out.below.size; have := hb2.size; have := hu2.size; omega
          have HLO := Lib.hid (show ∀ k, (Value.slice Av os.length cv).ownBlock = some k → k < wr.heap.size ∧ k ≠ W1.heap.size from fun k hk => ⟨(HN.out.own.lt k hk).2, HN.out.ne k hk⟩)
          obtain ⟨i0, hi, hz0, hz1, hz2⟩ := info_parts info_u32
          clear hpi hrd hbx2 hx2 hown2 hu2 hb2 hb3 hx3 hs3 hlen1 y0 y1 y2 y3 y4 y5 yd
          go_wp2_with (at_builtin; refine wpList_append_own_at _ rfl _ _ 22 rfl w.heap.size 30 i0 _ 1 4 Try.underlying22 hi hz0 hz1 hz2 rfl (by decide) _ os.length (nums .u32 os) rfl HOWN.out ⟨V2.heap.size, 0, none⟩ 1 1 [.int .u32 x] rfl rfl ?c1 ?c2 ?c3 ?c4 ?c5 ?_)
          case c1 =>
            intro j t hj
            have hjl := (List.getElem?_eq_some_iff.1 hj).1
            obtain rfl : j = 0 := by simpa using hjl
            rw [add_off]
            exact boxAt HX3.out (by rw [← hj]; rfl)
          case c2 => simp [Value.oneCell']
          case c3 => unfold maxLen; omega
          case c4 => omega
          case c5 => omega
          intro v4 W4 hown4 hgrow4 _ hat4
          obtain ⟨A4, c4, rfl, _⟩ := own_rd hown4
          have HO4 := Lib.hid hown4
          have HG4 := Lib.hid (Upd.of_grown hgrow4)
          have HA4 := Lib.hid hat4
          clear hown4 hgrow4 hat4 hi hz0 hz1 hz2
          go_wp2_with fail
          go_roundw
          case rel =>
            refine ⟨k + 1, os ++ [x], A4, c4, by omega, by go_num, rfl, by simp, Lib.hid ⟨⟨?_, ?_, ?_, ?_, HN.out.base, ⟨by simp; omega, by simp; omega⟩, ?_⟩, by simp; omega⟩⟩
            · rw [List.length_append, List.length_singleton, nums_append]
              exact HO4.out
            · refine ⟨g2, c2, R2, rc2, ?_, fun W5 hu => HRD.out W5 ?_⟩
              · rw [List.length_append, List.length_singleton]
                exact (HG4.out.block _ (Array.getElem?_eq_some_iff.1 HXB3.out).1 fun e => (HLO.out _ e).2 rfl).trans HXB3.out
              · have q1 := HB2.out.size
                have q2 := HU2.out.size
                have q3 := HB3.out.size
                have q4 := HS3.out
                refine ((((HU2.out.mono (G := fun k => k < wr.heap.size) fun k (h : k = W1.heap.size) => by omega).trans (Upd.of_below HB3.out) fun k h => .inr (by omega)).trans HG4.out fun k h => .inl (HLO.out k h).1)).trans hu fun k h => ?_
                rcases h with h | h
                · exact .inl (by omega)
                · rw [List.length_append, List.length_singleton] at h
                  rcases HA4.out with h2 | h2
                  · rw [h2] at h; exact .inl (HLO.out k h).1
                  · rw [h2] at h
                    have : V3.heap.size = k := by simpa using h
                    exact .inr (by omega)
            · intro k' hk'
              rw [List.length_append, List.length_singleton] at hk'
              rcases HA4.out with h2 | h2
              · rw [h2] at hk'; exact (HLO.out _ hk').2
              · rw [h2] at hk'
                have : V3.heap.size = k' := by simpa using hk'
                have := (Array.getElem?_eq_some_iff.1 HXB3.out).1
                omega
            · have q1 := HB2.out.size
              have q2 := HU2.out.size
              have q0 := HN.out.below.size
              have q5 := HN.out.base
              exact ((HN.out.below.trans (HB2.out.mono q0)).trans (HU2.out.below (by omega) fun k (h : k = W1.heap.size) => by omega)).trans ((HB3.out.mono (by omega)).trans (HG4.out.below hbase fun k h => (HN.out.own.lt k h).1))
            · intro t ht
              rcases List.mem_append.1 ht with h | h
              · exact HN.out.u32 t h
              · have : t = x := by simpa using h
                omega
          case measure => simp [intOf]; omega
        · have hp2 : (p = 1 ∨ (p = 0 ∧ n ≤ (os.length : Int))) := by
            by_cases h0 : p = 0
            · exact .inr ⟨h0, by by_cases h : (os.length : Int) < n; exact absurd ⟨h0, h⟩ hpush; omega⟩
            · exact .inl (by omega)
          clear hpush
          rcases List.eq_nil_or_concat os with rfl | ⟨os', a, rfl⟩
          · have hp3 : p = 1 := by
              rcases hp2 with h | ⟨_, h⟩
              · exact h
              · have := HN2.out; simp at h; omega
            subst hp3
            clear hp2 y0 y1 y2 y3 y4 y5 yd
            go_wp2_with fail
            go_roundw
            case rel => exact ⟨k + 1, [], Av, cv, by omega, by go_num, rfl, rfl, Lib.hid ⟨HN.out, by simp⟩⟩
            case measure => simp [intOf]; omega
          · rw [List.concat_eq_append] at *
            have hln : (os' ++ [a]).length = os'.length + 1 := by simp
            have hown := HN.out.own
            rw [hln] at hown
            obtain ⟨gv, rfl, hcv⟩ : ∃ gv, Av = some ⟨gv, 0, none⟩ ∧ os'.length + 1 ≤ cv := by
              rcases hown.2 with ⟨e, _⟩ | ⟨g', cap', cur, e, _, _, h3, _⟩
              · cases e
              · cases e; exact ⟨_, rfl, h3⟩
            have hca : wr.cell? ⟨gv, os'.length, none⟩ = some (.int .u32 a) := by
              have := hown.cells (g := gv) rfl os'.length (.int .u32 a) (by simp [nums])
              rwa [add_off] at this
            rw [hln]
            rw [hln] at y5
            have hal := HU.out
            have HOS := Lib.hid (show ∀ t ∈ os', 0 ≤ t ∧ t < 4294967296 from fun t ht => HN.out.u32 t (by simp [ht]))
            have hau := HN.out.u32 a (by simp)
            have hol4 : os'.length + 1 ≤ k := by rw [hln] at hol; exact hol
            have hol3 : os'.length + 1 ≤ 200 := by rw [hln] at hol2; exact hol2
            have hret : ∀ W', RdP W' (some ⟨g, 0, none⟩) c [1] R rc (os' ++ [a]) → Calls Try.prog 26 #[.agg #[.int .i64 0, .int .i64 0, .int .i64 n, .slice (some ⟨g, 0, none⟩) 1 c, .int .u32 0, .slice R (os'.length + 1) rc], .int .u32 a] W' fun e w' => ∃ u, e = .returned (.tuple #[u, .bool true, .int .i64 0]) ∧ PredIs W' u 0 0 n [1] 0 os' w' ∧ Below W'.heap.size W' w' := fun W' h => by
              have := Return_ok 0 0 n (some ⟨g, 0, none⟩) R c rc [1] (os' ++ [a]) 0 a W' h (predN HN2.out _ HN.out.len.1) ⟨by omega, by omega⟩
              rw [retB_last, List.dropLast_concat, hln] at this
              exact this
            have HRET := Lib.hid hret
            have hk : ∀ W' : World, Upd (fun k => wr.heap.size ≤ k) wr W' → W'.cell? ⟨W1.heap.size, 0, none⟩ = some (.int .i64 0) ∧ W'.cell? ⟨W1.heap.size, 1, none⟩ = some (.int .i64 0) ∧ W'.cell? ⟨W1.heap.size, 2, none⟩ = some (.int .i64 n) ∧ W'.cell? ⟨W1.heap.size, 3, none⟩ = some (.slice (some ⟨g, 0, none⟩) 1 c) ∧ W'.cell? ⟨W1.heap.size, 4, none⟩ = some (.int .u32 0) ∧ W'.cell? ⟨W1.heap.size, 5, none⟩ = some (.slice R (os'.length + 1) rc) ∧ W'.cell? ⟨gv, os'.length, none⟩ = some (.int .u32 a) := fun W' hu => by
              have hb : Below wr.heap.size wr W' := hu.below (Nat.le_refl _) fun _ h => h
              exact ⟨bkeep hb y0, bkeep hb y1, bkeep hb y2, bkeep hb y3, bkeep hb y4, bkeep hb y5, bkeep hb hca⟩
            have HK := Lib.hid hk
            have hst2 : ∀ W', Upd (fun k => wr.heap.size ≤ k) wr W' → RdP W' (some ⟨g, 0, none⟩) c [1] R rc (os' ++ [a]) := fun W' hu => HST.out W' ⟨hu.os, hu.tape, hu.output, hu.size, fun k hk _ => hu.block k hk (by omega)⟩
            have HST2 := Lib.hid hst2
            clear hk hst2
            have HOWN := Lib.hid hown
            have HLN := Lib.hid hln
            obtain ⟨hau1, hau2⟩ := hau
            clear hret hown hal hol hln
            have hcases : (p = 1 ∧ True) ∨ (p = 0 ∧ n ≤ (os'.length : Int) + 1) := by
              rcases hp2 with h | ⟨h, h'⟩
              · exact .inl ⟨h, trivial⟩
              · rw [HLN.out] at h'
                exact .inr ⟨h, by omega⟩
            clear hp2
            rcases hcases with ⟨rfl, _⟩ | ⟨rfl, hfull⟩
            all_goals
              go_wp2_with fail
              have hw1 : IntKind.i64.wrap ((os'.length : Int) + 1 - 1) = (os'.length : Int) := by rw [Int.add_sub_cancel]; exact IntWalk.i64_in _ (by omega)
              have hw2 : IntKind.i64.wrap (((os'.length + 1 : Nat) : Int) - 1) = (os'.length : Int) := by rw [show (((os'.length + 1 : Nat) : Int) - 1) = (os'.length : Int) by omega]; exact IntWalk.i64_in _ (by omega)
              have hw0 : IntKind.i64.wrap (os'.length : Int) = (os'.length : Int) := IntWalk.i64_in _ (by omega)
              have hw3 : (0 : Int) ≤ (os'.length : Int) := by omega
              have hw4 : (os'.length : Int) < (os'.length : Int) + 1 := by omega
              have hw5 : (os'.length : Int) < ((os'.length + 1 : Nat) : Int) := by omega
              go_upto_region 15 with fail
              go_cut [11, 12, 13] from 31 to 82 (fun s11 s12 s13 wx => s12 = .bool true ∧ s13 = .int .i64 0 ∧ ∃ b11 g2 c2 R2 rc2, s11 = .pointer (some ⟨b11, 0, none⟩) ∧ Hid (wr.heap.size ≤ b11 ∧ wx.heap[b11]? = some (.cells #[.int .i64 0, .int .i64 0, .int .i64 n, .slice (some ⟨g2, 0, none⟩) 1 c2, .int .u32 0, .slice R2 os'.length rc2] 52 (0, 0)) ∧ Below wr.heap.size wr wx ∧ ∀ W2, Upd (fun k => k < wr.heap.size) wx W2 → RdP W2 (some ⟨g2, 0, none⟩) c2 [1] R2 rc2 os'))
              case first =>
                go_wp2_with fail
                go_region_held3 (fun W' => W'.cell? ⟨W1.heap.size, 0, none⟩ = some (.int .i64 0) ∧ W'.cell? ⟨W1.heap.size, 1, none⟩ = some (.int .i64 0) ∧ W'.cell? ⟨W1.heap.size, 2, none⟩ = some (.int .i64 n) ∧ W'.cell? ⟨W1.heap.size, 3, none⟩ = some (.slice (some ⟨g, 0, none⟩) 1 c) ∧ W'.cell? ⟨W1.heap.size, 4, none⟩ = some (.int .u32 0) ∧ W'.cell? ⟨W1.heap.size, 5, none⟩ = some (.slice R (os'.length + 1) rc) ∧ W'.cell? ⟨gv, os'.length, none⟩ = some (.int .u32 a))
                  (first | exact HK.out _ (Upd.drew _ wr) | exact HK.out _ ((Upd.drew _ wr).trans (Upd.alloc _ _ _) fun _ h => .inl h) | exact HK.out _ hu2 | exact HK.out _ (hu2.trans (Upd.alloc _ _ _) fun _ h => .inl h) | exact HK.out _ (by (repeat refine Upd.set ?_ (Nat.le_refl _) _ _); exact hu2))
                  (first
                    | (go_at_call 26; refine (HRET.out wr.drew (HST2.out _ (Upd.drew _ wr))).mono ?_; rintro ee W2 ⟨u, rfl, hpi, hb2⟩; obtain ⟨g2, c2, R2, rc2, rfl, hrd⟩ := hpi.rd; have hu2 : Upd (fun k => wr.heap.size ≤ k) wr W2 := (Upd.drew _ wr).trans (Upd.of_below hb2) fun _ h => .inl h)
                    | (go_at_call 26; refine (HRET.out (wr.drew.alloc zeroP) (HST2.out _ ((Upd.drew _ wr).trans (Upd.alloc _ _ _) fun _ h => .inl h))).mono ?_; rintro ee W2 ⟨u, rfl, hpi, hb2⟩; obtain ⟨g2, c2, R2, rc2, rfl, hrd⟩ := hpi.rd; have hz : W2.heap[wr.heap.size]? = some zeroP := belowBox hb2 (heap_alloc_new wr.drew zeroP); obtain ⟨z0, z1, z2, z3, z4, z5, zd⟩ := box6 hz; have hu2 : Upd (fun k => wr.heap.size ≤ k) wr W2 := ((Upd.drew _ wr).trans (Upd.alloc _ _ _) fun _ h => .inl h).trans (Upd.of_below hb2) fun k h => .inl (by have h' : wr.heap.size + 1 ≤ k := (by simpa using h); omega)))
                all_goals
                  go_wp2_with fail
                  go_meet
                  case rel =>
                    have hbw : Below wr.heap.size wr W2 := hu2.below (Nat.le_refl _) fun _ h => h
                    first
                      | exact ⟨rfl, rfl, W2.heap.size, g2, c2, R2, rc2, rfl, Lib.hid ⟨hbw.size, heap_alloc_new _ _, bvia hbw (balloc _ _) (Nat.le_refl _), fun W3 hu => hrd W3 ((Upd.alloc _ _ _).trans hu fun k h => .inl h)⟩⟩
                      | exact ⟨rfl, rfl, wr.heap.size, g2, c2, R2, rc2, rfl, Lib.hid ⟨Nat.le_refl _, set6_heap hz _ _ _ _ _ _, bset6 hbw (Nat.le_refl _) _ _ _ _ _ _, fun W3 hu => hrd W3 ((show Upd (fun k => k < (wr.drew.alloc zeroP).heap.size) W2 _ by
                          (repeat refine Upd.set ?_ (by simp) _ _)
                          exact Upd.refl _ _).trans hu fun k h => .inl (by have : k < wr.heap.size := h; simp; omega))⟩⟩
              case rest =>
                obtain ⟨rfl, rfl, b11, g2, c2, R2, rc2, rfl, hH⟩ := hcut
                obtain ⟨hb11, hx11, hbc, hrd⟩ := hH.out
                have hbx6 := belowBox hbc HBX.out
                have hbl := (Array.getElem?_eq_some_iff.1 HBX.out).1
                obtain ⟨x0', x1', x2', x3', x4', x5', xd⟩ := box6 hbx6
                obtain ⟨z0, z1, z2, z3, z4, z5, zd⟩ := box6 hx11
                have hk2 : ∀ W' : World, Upd (fun k => k = W1.heap.size) wc W' → W'.cell? ⟨b11, 0, none⟩ = some (.int .i64 0) ∧ W'.cell? ⟨b11, 1, none⟩ = some (.int .i64 0) ∧ W'.cell? ⟨b11, 2, none⟩ = some (.int .i64 n) ∧ W'.cell? ⟨b11, 3, none⟩ = some (.slice (some ⟨g2, 0, none⟩) 1 c2) ∧ W'.cell? ⟨b11, 4, none⟩ = some (.int .u32 0) ∧ W'.cell? ⟨b11, 5, none⟩ = some (.slice R2 os'.length rc2) := fun W' hu => by
                  have h := (hu.block _ (Array.getElem?_eq_some_iff.1 hx11).1 (by omega)).trans hx11
                  exact ⟨boxAt h rfl, boxAt h rfl, boxAt h rfl, boxAt h rfl, boxAt h rfl, boxAt h rfl⟩
                have HK2 := Lib.hid hk2
                have hw6 : (os'.length : Int) ≤ (cv : Int) := by omega
                have HRD := Lib.hid hrd
                have HBC := Lib.hid hbc
                have HBX6 := Lib.hid hbx6
                clear hk2 hrd hbc hbx6 hx11 hH y0 y1 y2 y3 y4 y5 yd hca x0
                go_wp2_with fail
                go_region_held3 (fun W' => W'.cell? ⟨b11, 0, none⟩ = some (.int .i64 0) ∧ W'.cell? ⟨b11, 1, none⟩ = some (.int .i64 0) ∧ W'.cell? ⟨b11, 2, none⟩ = some (.int .i64 n) ∧ W'.cell? ⟨b11, 3, none⟩ = some (.slice (some ⟨g2, 0, none⟩) 1 c2) ∧ W'.cell? ⟨b11, 4, none⟩ = some (.int .u32 0) ∧ W'.cell? ⟨b11, 5, none⟩ = some (.slice R2 os'.length rc2))
                  (first | exact HK2.out _ (Upd.drew _ wc) | exact HK2.out _ (Upd.trans (by (repeat refine Upd.set ?_ (by rfl) _ _); exact Upd.refl _ _) (Upd.drew (fun k => k = W1.heap.size) _) fun _ h => .inl h)) (fail)
                have hu : Upd (fun k => k = W1.heap.size) wc ((((((wc.setCell ⟨W1.heap.size, 0, none⟩ (.int .i64 0)).setCell ⟨W1.heap.size, 1, none⟩ (.int .i64 0)).setCell ⟨W1.heap.size, 2, none⟩ (.int .i64 n)).setCell ⟨W1.heap.size, 3, none⟩ (.slice (some ⟨g2, 0, none⟩) 1 c2)).setCell ⟨W1.heap.size, 4, none⟩ (.int .u32 0)).setCell ⟨W1.heap.size, 5, none⟩ (.slice R2 os'.length rc2)).drew := (show Upd (fun k => k = W1.heap.size) wc ((((((wc.setCell ⟨W1.heap.size, 0, none⟩ (.int .i64 0)).setCell ⟨W1.heap.size, 1, none⟩ (.int .i64 0)).setCell ⟨W1.heap.size, 2, none⟩ (.int .i64 n)).setCell ⟨W1.heap.size, 3, none⟩ (.slice (some ⟨g2, 0, none⟩) 1 c2)).setCell ⟨W1.heap.size, 4, none⟩ (.int .u32 0)).setCell ⟨W1.heap.size, 5, none⟩ (.slice R2 os'.length rc2)) by
                  (repeat refine Upd.set ?_ (by rfl) _ _)
                  exact Upd.refl _ _).trans (Upd.drew _ _) fun _ h => .inl h
                have hx6 : ((((((wc.setCell ⟨W1.heap.size, 0, none⟩ (.int .i64 0)).setCell ⟨W1.heap.size, 1, none⟩ (.int .i64 0)).setCell ⟨W1.heap.size, 2, none⟩ (.int .i64 n)).setCell ⟨W1.heap.size, 3, none⟩ (.slice (some ⟨g2, 0, none⟩) 1 c2)).setCell ⟨W1.heap.size, 4, none⟩ (.int .u32 0)).setCell ⟨W1.heap.size, 5, none⟩ (.slice R2 os'.length rc2)).drew.heap[W1.heap.size]? = some (.cells #[.int .i64 0, .int .i64 0, .int .i64 n, .slice (some ⟨g2, 0, none⟩) 1 c2, .int .u32 0, .slice R2 os'.length rc2] 52 (0, 0)) := set6_heap HBX6.out _ _ _ _ _ _
                have HU6 := Lib.hid hu
                have HX6 := Lib.hid hx6
                clear hu hx6 x0' x1' x2' x3' x4' x5' xd z0 z1 z2 z3 z4 z5 zd
                go_wp2_with fail
                go_roundw
                case rel =>
                  have hgv := HN.out.ne gv rfl
                  have hgl := (HN.out.own.lt gv rfl)
                  have hsz := HBC.out.size
                  have how := HOWN.out
                  rw [nums_append] at how
                  have hpop := ownsRow_pop (size := 1) (by simp) how
                  have hl1 := HN.out.len.1
                  rw [HLN.out] at hl1
                  refine ⟨k + 1, os', some ⟨gv, 0, none⟩, cv, by omega, by go_num, rfl, rfl, Lib.hid ⟨⟨own_upd (own_upd hpop (Upd.of_below HBC.out) fun k hk e => by have := (hpop.lt k hk).2; omega) HU6.out fun k hk e => ?_, ⟨g2, c2, R2, rc2, HX6.out, fun W5 h5 => HRD.out W5 ((HU6.out.mono (G := fun k => k < wr.heap.size) fun k (h : k = W1.heap.size) => by omega).trans h5 fun k h => ?_)⟩, fun k hk => ?_, (HN.out.below.trans (HBC.out.mono HN.out.below.size)).trans (HU6.out.below (by have := HN.out.below.size; omega) fun k (h : k = W1.heap.size) => by have := HN.out.base; omega), HN.out.base, ⟨by omega, by omega⟩, HOS.out⟩, by omega⟩⟩
                  · have h1 : gv = k := by simpa [Value.ownBlock] using hk
                    exact hgv (h1.trans e)
                  · rcases h with h | h
                    · exact .inl (by omega)
                    · have h1 : gv = k := by simpa [Value.ownBlock] using h
                      exact .inl (by omega)
                  · have h1 : gv = k := by simpa [Value.ownBlock] using hk
                    rw [← h1]
                    exact hgv
                case measure => simp [intOf]; omega
      · obtain ⟨hN, hol⟩ := hI.out
        have HB := Lib.hid hN.below
        clear hN hI hol
        go_wp2_with fail
        refine (sane_any _).mono ?_
        rintro e W ⟨rfl, hb⟩
        have HBB := Lib.hid (bvia HB.out hb (Nat.le_refl _))
        go_wp2
        go_ret
        exact ⟨rfl, HBB.out⟩
end Go.Proofs.Ytdkacdfhapgboaa
