/-
  RevealShowsTheCell: the plain law.
-/
import Derived.Test.Qxb6500653aRects
import Derived.Test.Qxb6500653aRevealM
namespace Go.Proofs.Qxb6500653a
open Go.RowKit

section
variable {n m fz sc : Nat} {sz : Nat → Nat}
theorem clip0_none {L : Nat} (h : fz ≤ L) : ¬ ((mkAx n m fz sc sz 0 0 0).clip0 L L).1 < ((mkAx n m fz sc sz 0 0 0).clip0 L L).2 := by
  have e : (mkAx n m fz sc sz 0 0 0).span0 L L = (0, 0) := by
    unfold Ax.span0
    exact if_neg (by show ¬ L < fz; omega)
  unfold Ax.clip0
  rw [e]
  simp only
  omega
theorem clip1_eq {L : Nat} (h : fz ≤ L) (hL : L < n) (hs : sc < n) : (mkAx n m fz sc sz 0 0 0).clip1 L L =
    (max ((edgeOf m fz sz : Int) + (sums sz L : Int) - (sums sz sc : Int)) (edgeOf m fz sz : Int), min ((edgeOf m fz sz : Int) + (sums sz (L + 1) : Int) - (sums sz sc : Int)) (m : Int)) := by
  have e : (mkAx n m fz sc sz 0 0 0).span1 L L = (stOf m fz sc sz L, stOf m fz sc sz L + (sz L : Int)) := by
    unfold Ax.span1
    rw [if_pos (show (mkAx n m fz sc sz 0 0 0).fz ≤ L from h)]
    have : max L (mkAx n m fz sc sz 0 0 0).fz = L := Nat.max_eq_left h
    rw [this]
    rfl
  have est : stOf m fz sc sz L = (edgeOf m fz sz : Int) + (sums sz L : Int) - (sums sz sc : Int) := by
    unfold stOf
    exact if_neg (by omega)
  have ehi : (mkAx n m fz sc sz 0 0 0).hi = min (edgeOf m fz sz + (sums sz n - sums sz sc)) m := rfl
  have eed : (mkAx n m fz sc sz 0 0 0).edge = edgeOf m fz sz := rfl
  have h1 : sums sz (L + 1) ≤ sums sz n := sums_mono sz hL
  have h2 : sums sz sc ≤ sums sz n := sums_mono sz (by omega)
  have h3 : sums sz (L + 1) = sums sz L + sz L := rfl
  unfold Ax.clip1
  rw [e, est, ehi, eed]
  refine Prod.ext rfl ?_
  show min _ _ = min _ _
  omega

/-- one axis: behind a reveal the line shows, whole or from the edge on; if it showed whole before, the scroll is as it was -/
theorem rev_axis {L r : Nat} (hL : fz ≤ L) (hn : L < n) (hs : sc < n) (hrn : r < n) (hz : 1 ≤ sz L) (hm : sums sz fz < m) (hr : RevTo (mkAx n m fz sc sz 0 0 0) L sc r) :
    ((mkAx n m fz r sz 0 0 0).clip1 L L).1 < ((mkAx n m fz r sz 0 0 0).clip1 L L).2 ∧
    (((mkAx n m fz r sz 0 0 0).clip1 L L).2 - ((mkAx n m fz r sz 0 0 0).clip1 L L).1 = (sz L : Int) ∨ (r = L ∧ ((mkAx n m fz r sz 0 0 0).clip1 L L).1 = (sums sz fz : Int))) ∧
    (((mkAx n m fz sc sz 0 0 0).clip1 L L).1 < ((mkAx n m fz sc sz 0 0 0).clip1 L L).2 → ((mkAx n m fz sc sz 0 0 0).clip1 L L).2 - ((mkAx n m fz sc sz 0 0 0).clip1 L L).1 = (sz L : Int) → r = sc) := by
  rw [clip1_eq hL hn hrn, clip1_eq hL hn hs]
  have he : edgeOf m fz sz = sums sz fz := by unfold edgeOf; omega
  have h3 : sums sz (L + 1) = sums sz L + sz L := rfl
  rw [he]
  simp only
  rcases hr with ⟨h, _⟩ | ⟨_, h, rfl⟩ | ⟨_, h, hv⟩
  · exact absurd (show L < fz from h) (by omega)
  · refine ⟨by omega, Or.inr ⟨rfl, by omega⟩, fun h5 h6 => ?_⟩
    rcases Nat.lt_or_ge r sc with h' | h'
    · have := sums_mono sz (show r + 1 ≤ sc from h')
      omega
    · omega
  · have h5 := sums_mono sz hv.hi
    have h6 := sums_mono sz (show sc ≤ L by omega)
    have h7 := hv.lo
    have eroom : (mkAx n m fz sc sz 0 0 0).m - (mkAx n m fz sc sz 0 0 0).edge = m - sums sz fz := by
      show m - edgeOf m fz sz = _
      rw [he]
    have esz : (mkAx n m fz sc sz 0 0 0).sz = sz := rfl
    have hf := hv.fits
    have hl := hv.least
    rw [eroom, esz] at hf hl
    refine ⟨?_, ?_, fun h8 h9 => ?_⟩
    · rcases hf with rfl | hf <;> omega
    · rcases hf with rfl | hf
      · exact Or.inr ⟨rfl, by omega⟩
      · exact Or.inl (by omega)
    · rcases hl with hl | hl
      · exact hl
      · rcases Nat.lt_or_ge sc r with h' | h'
        · have := sums_mono sz (show sc ≤ r - 1 by omega)
          omega
        · omega
end

theorem ownR_none {M : List Ar} {r c : Nat} (h : mergeAt M r c = none) : ownR M r c = r ∧ ownC M r c = c := by
  unfold ownR ownC
  rw [h]
  exact ⟨rfl, rfl⟩
/-- a cell that is neither merged nor frozen has at most one rectangle -/
theorem rects_plain {S : Sh} {V : Vw} {rn cn : Nat} (hr : rn < 64) (hc : cn < 26) (hm : mergeAt S.mg rn cn = none) (h1 : V.fr ≤ rn) (h2 : V.fc ≤ cn) :
    rectsOf S V (rn : Int) (cn : Int) = if ((rowAx S V 0 0 0).clip1 rn rn).1 < ((rowAx S V 0 0 0).clip1 rn rn).2 ∧ ((colAx S V 0 0 0).clip1 cn cn).1 < ((colAx S V 0 0 0).clip1 cn cn).2 then
      [⟨((rowAx S V 0 0 0).clip1 rn rn).1, ((colAx S V 0 0 0).clip1 cn cn).1, ((rowAx S V 0 0 0).clip1 rn rn).2, ((colAx S V 0 0 0).clip1 cn cn).2⟩] else [] := by
  have hin : inS (rn : Int) (cn : Int) = true := by simp [inS]; omega
  obtain ⟨o1, o2⟩ := ownR_none hm
  have ha : areaOf S rn cn = ⟨rn, cn, rn, cn⟩ := by unfold areaOf; rw [hm]; rfl
  unfold rectsOf
  rw [if_pos ⟨hin, by simpa using o1, by simpa using o2⟩]
  simp only [Int.toNat_natCast]
  rw [ha]
  have z1 : ¬ ((rowAx S V 0 0 0).clip0 rn rn).1 < ((rowAx S V 0 0 0).clip0 rn rn).2 := clip0_none h1
  have z2 : ¬ ((colAx S V 0 0 0).clip0 cn cn).1 < ((colAx S V 0 0 0).clip0 cn cn).2 := clip0_none h2
  have c00 : cellRc S V ⟨rn, cn, rn, cn⟩ 0 0 = [] := if_neg (fun h => z1 h.1)
  have c01 : cellRc S V ⟨rn, cn, rn, cn⟩ 0 1 = [] := if_neg (fun h => z1 h.1)
  have c10 : cellRc S V ⟨rn, cn, rn, cn⟩ 1 0 = [] := if_neg (fun h => z2 h.2)
  show (([] ++ (([] ++ cellRc S V ⟨rn, cn, rn, cn⟩ 0 0) ++ cellRc S V ⟨rn, cn, rn, cn⟩ 0 1)) ++ (([] ++ cellRc S V ⟨rn, cn, rn, cn⟩ 1 0) ++ cellRc S V ⟨rn, cn, rn, cn⟩ 1 1)) = _
  rw [c00, c01, c10]
  simp only [List.nil_append]
  rfl

/-- THE LAW -/
theorem rev_law {S : Sh} {V V' : Vw} {rn cn : Nat} (hS : S.Ok) (hV : V.Ok) (hV' : V'.Ok) (hr : rn < 64) (hc : cn < 26) (hm : mergeAt S.mg rn cn = none) (h1 : V.fr ≤ rn) (h2 : V.fc ≤ cn) (hh1 : S.hr rn = false) (hh2 : S.hc cn = false)
    (hi : sums (rowSz S) V.fr < 24) (wi : sums (colSz S) V.fc < 80) (hv : RevVw S V V' rn cn) :
    ∃ R : Rc, rectsOf S V' (rn : Int) (cn : Int) = [R] ∧ (R.y1 - R.y0 = (S.ht rn : Int) ∨ (V'.sr = rn ∧ R.y0 = (sums (rowSz S) V.fr : Int))) ∧ (R.x1 - R.x0 = (S.wd cn : Int) ∨ (V'.sc = cn ∧ R.x0 = (sums (colSz S) V.fc : Int))) ∧
      (∀ R0 : Rc, rectsOf S V (rn : Int) (cn : Int) = [R0] → R0.y1 - R0.y0 = (S.ht rn : Int) → R0.x1 - R0.x0 = (S.wd cn : Int) → V' = V) := by
  have e1 : rowSz S rn = S.ht rn := by unfold rowSz; exact if_pos ⟨hr, hh1⟩
  have e2 : colSz S cn = S.wd cn := by unfold colSz; exact if_pos ⟨hc, hh2⟩
  have p1 : 1 ≤ rowSz S rn := by rw [e1]; exact (hS.ht rn).1
  have p2 : 1 ≤ colSz S cn := by rw [e2]; exact (hS.wd cn).1
  obtain ⟨a1, a2, a3⟩ := rev_axis h1 hr hV.sr hV'.sr p1 hi hv.row
  obtain ⟨b1, b2, b3⟩ := rev_axis h2 hc hV.sc hV'.sc p2 wi hv.col
  have f1 : V'.fr ≤ rn := by rw [hv.fr]; exact h1
  have f2 : V'.fc ≤ cn := by rw [hv.fc]; exact h2
  have r1 : rowAx S V' 0 0 0 = mkAx 64 24 V.fr V'.sr (rowSz S) 0 0 0 := by unfold rowAx; rw [hv.fr]
  have r2 : colAx S V' 0 0 0 = mkAx 26 80 V.fc V'.sc (colSz S) 0 0 0 := by unfold colAx; rw [hv.fc]
  rw [e1] at a2 a3
  rw [e2] at b2 b3
  rw [rects_plain hr hc hm f1 f2, r1, r2, if_pos ⟨a1, b1⟩]
  refine ⟨_, rfl, a2, b2, fun R0 hR0 q1 q2 => ?_⟩
  rw [rects_plain hr hc hm h1 h2] at hR0
  split at hR0
  · rename_i hlt
    injection hR0 with hR0 _
    subst hR0
    have t1 := a3 hlt.1 q1
    have t2 := b3 hlt.2 q2
    have t3 := hv.fr
    have t4 := hv.fc
    cases V
    cases V'
    simp only at t1 t2 t3 t4
    subst t1 t2 t3 t4
    rfl
  · cases hR0
end Go.Proofs.Qxb6500653a
