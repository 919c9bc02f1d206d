/- Part 18 of the texts that the proof stands on: WrapN. -/
import Derived.Test.YtdkacdfhapgboaaM17

/- Total and the comparison of simulations, the lengths as letters; how a feed keeps to its bounds. (printed) -/
set_option linter.unusedVariables false
set_option linter.unusedSimpArgs false
namespace Go.Proofs.Ytdkacdfhapgboaa
open Go.RowKit

theorem Total_n (il is iw dl ds dw ll ls lw pt ph pr : Int) (AI AD AL A R N : Option Addr) (ci cd cl ca ra nc : Nat) (vI vD vL : List Value) (LI LD LL : List (List Int)) (cs rs : List Int) (hist : Int) (ns : List (List Int)) (w : World) (nI nD nL : Nat)
    (hs : simShapeB ⟨il, is, iw, dl, ds, dw, ll, ls, lw, pt, ph, pr⟩ = true) (hI : RdSets w AI vI LI) (hD : RdSets w AD vD LD) (hL : RdSets w AL vL LL) (hc : RdI w .i64 A cs.length cs) (hn : RdN w N ns)
    (oI : cacheOk il is iw LI) (oD : cacheOk dl ds dw LD) (oL : cacheOk ll ls lw LL) (oP : predOk pt ph pr cs hist rs) (hh : 0 ≤ hist ∧ hist < 4294967296) (hnl : ns.length ≤ 20000) (oN : cntsOk ns) (eLI : LI.length = nI) (eLD : LD.length = nD) (eLL : LL.length = nL) :
    Calls Try.prog 32 #[.agg #[.int .i64 il, .int .i64 is, .int .i64 iw, .int .i64 dl, .int .i64 ds, .int .i64 dw, .int .i64 ll, .int .i64 ls, .int .i64 lw, .int .i64 pt, .int .i64 ph, .int .i64 pr, .int .i64 il, .int .i64 is, .int .i64 iw, .slice AI nI ci, .int .i64 dl, .int .i64 ds, .int .i64 dw, .slice AD nD cd, .int .i64 ll, .int .i64 ls, .int .i64 lw, .slice AL nL cl, .int .i64 pt, .int .i64 ph, .int .i64 pr, .slice A cs.length ca, .int .u32 hist, .slice R rs.length ra, .slice N ns.length nc]] w fun e w' => e = .returned (.tuple #[.agg (.int .u32 0 :: nums .i64 (totL ns ns.length)).toArray, .int .i64 0]) ∧ Below w.heap.size w w' := by
  subst eLI
  subst eLD
  subst eLL
  exact Total_ok il is iw dl ds dw ll ls lw pt ph pr AI AD AL A R N ci cd cl ca ra nc vI vD vL LI LD LL cs rs hist ns w hs hI hD hL hc hn oI oD oL oP hh hnl oN

theorem sameSim_n (il iw dl dw ll lw pt ph pr : Int) (gI kI gD kD gL kL gI' kI' gD' kD' gL' kL' : Nat) (A A' R R' N N' : Option Addr) (ca ca' ra ra' nc nc' : Nat) (vI vD vL vI' vD' vL' : List Value) (LI LD LL : List (List Int)) (cs rs : List Int) (hist : Int) (ns : List (List Int)) (w : World) (nI nD nL : Nat)
    (hI : RdSets w (some ⟨gI, 0, none⟩) vI LI) (hD : RdSets w (some ⟨gD, 0, none⟩) vD LD) (hL : RdSets w (some ⟨gL, 0, none⟩) vL LL) (hI' : RdSets w (some ⟨gI', 0, none⟩) vI' LI) (hD' : RdSets w (some ⟨gD', 0, none⟩) vD' LD) (hL' : RdSets w (some ⟨gL', 0, none⟩) vL' LL)
    (hA : RdI w .i64 A cs.length cs) (hA' : RdI w .i64 A' cs.length cs) (hR : RdI w .u32 R rs.length rs) (hR' : RdI w .u32 R' rs.length rs) (hN : RdN w N ns) (hN' : RdN w N' ns) (eLI : LI.length = nI) (eLD : LD.length = nD) (eLL : LL.length = nL) :
    Calls Try.prog 29 #[.agg #[.int .i64 il, .int .i64 (nI : Int), .int .i64 iw, .int .i64 dl, .int .i64 (nD : Int), .int .i64 dw, .int .i64 ll, .int .i64 (nL : Int), .int .i64 lw, .int .i64 pt, .int .i64 ph, .int .i64 pr, .int .i64 il, .int .i64 (nI : Int), .int .i64 iw, .slice (some ⟨gI, 0, none⟩) nI kI, .int .i64 dl, .int .i64 (nD : Int), .int .i64 dw, .slice (some ⟨gD, 0, none⟩) nD kD, .int .i64 ll, .int .i64 (nL : Int), .int .i64 lw, .slice (some ⟨gL, 0, none⟩) nL kL, .int .i64 pt, .int .i64 ph, .int .i64 pr, .slice A cs.length ca, .int .u32 hist, .slice R rs.length ra, .slice N ns.length nc], .agg #[.int .i64 il, .int .i64 (nI : Int), .int .i64 iw, .int .i64 dl, .int .i64 (nD : Int), .int .i64 dw, .int .i64 ll, .int .i64 (nL : Int), .int .i64 lw, .int .i64 pt, .int .i64 ph, .int .i64 pr, .int .i64 il, .int .i64 (nI : Int), .int .i64 iw, .slice (some ⟨gI', 0, none⟩) nI kI', .int .i64 dl, .int .i64 (nD : Int), .int .i64 dw, .slice (some ⟨gD', 0, none⟩) nD kD', .int .i64 ll, .int .i64 (nL : Int), .int .i64 lw, .slice (some ⟨gL', 0, none⟩) nL kL', .int .i64 pt, .int .i64 ph, .int .i64 pr, .slice A' cs.length ca', .int .u32 hist, .slice R' rs.length ra', .slice N' ns.length nc']] w fun e w' => e = .returned (.bool true) ∧ Below w.heap.size w w' := by
  subst eLI
  subst eLD
  subst eLL
  exact sameSim_true il iw dl dw ll lw pt ph pr gI kI gD kD gL kL gI' kI' gD' kD' gL' kL' A A' R R' N N' ca ca' ra ra' nc nc' vI vD vL vI' vD' vL' LI LD LL cs rs hist ns w hI hD hL hI' hD' hL' hA hA' hR hR' hN hN'

theorem hist_lt {K : GC} {t : Int} {nI nD nL : Nat} {s : GS} (h : GOk K t nI nD nL s) : 0 ≤ s.hist ∧ s.hist < 4294967296 := by
  have h1 : s.hist < 2 ^ K.h := by have := h.p.2.2.2.1; simpa using this
  have h12 : K.h ≤ 12 := by
    have := h.p.1
    simp [predShapeB] at this
    omega
  have h2 : (2 : Int) ^ K.h ≤ 2 ^ 12 := by exact_mod_cast Nat.pow_le_pow_right (show 0 < 2 by omega) h12
  exact ⟨h.hist, by omega⟩
theorem feed_len {K : GC} {t : Int} {nI nD nL : Nat} : ∀ (es : List (List Int)) {s s' : GS}, GOk K t nI nD nL s → s.feed K es = some s' → s'.N.length ≤ s.N.length + es.length
  | [], s, s', h, he => by
    unfold GS.feed at he
    cases he
    exact Nat.le_refl _
  | e :: es, s, s', h, he => by
    unfold GS.feed at he
    rw [List.foldlM_cons] at he
    cases h1 : s.ev K e with
    | none => rw [h1] at he; cases he
    | some s1 =>
      rw [h1] at he
      have h2 := feed_len es (h.ev h1) he
      have h3 := GS.ev_len h.n.sorted h1
      simp only [List.length_cons]
      omega
theorem GOk.lens {K : GC} {t : Int} {nI nD nL : Nat} {s : GS} (h : GOk K t nI nD nL s) : s.I.length = nI ∧ s.D.length = nD ∧ s.L.length = nL :=
  ⟨by have := h.i.2.1; omega, by have := h.d.2.1; omega, by have := h.l.2.1; omega⟩
end Go.Proofs.Ytdkacdfhapgboaa
