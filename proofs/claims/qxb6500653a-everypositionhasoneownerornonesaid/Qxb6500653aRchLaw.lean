/-
  ReachCoversTheText: the plain law.
-/
import Derived.Test.Qxb6500653aPairs
namespace Go.Proofs.Qxb6500653a
open Go.RowKit

/-- how many positions of the first y lines bear a character of the cell's text -/
def cnts (F : Nat → Nat → Spot) (r c : Nat) : Nat → Nat
  | 0 => 0
  | y + 1 => cnts F r c y + cnt (fun x => (F y x).of r c) 80
theorem cnts_zero (F : Nat → Nat → Spot) (r c : Nat) : ∀ n, (∀ y x, y < n → x < 80 → (F y x).of r c = false) → cnts F r c n = 0
  | 0, _ => rfl
  | n + 1, h => by
    simp only [cnts]
    rw [cnts_zero F r c n (fun y x hy hx => h y x (by omega) hx), cnt_zero _ 80 (fun x hx => h n x (by omega) hx)]
theorem cnts_one (F : Nat → Nat → Spot) (r c Y : Nat) : ∀ n, Y < n → (∀ y x, y < n → y ≠ Y → x < 80 → (F y x).of r c = false) → cnts F r c n = cnt (fun x => (F Y x).of r c) 80
  | 0, h, _ => by omega
  | n + 1, h, hz => by
    simp only [cnts]
    rcases Nat.lt_or_ge Y n with h' | h'
    · rw [cnts_one F r c Y n h' (fun y x hy hn hx => hz y x (by omega) hn hx), cnt_zero _ 80 (fun x hx => hz n x (by omega) (by omega) hx)]
      omega
    · have e : Y = n := by omega
      subst e
      rw [cnts_zero F r c Y (fun y x hy hx => hz y x (by omega) (by omega) hx)]
      omega
/-- Reach's answer is right -/
structure ReachOk (F : Nat → Nat → Spot) (r c : Nat) (R : Rc × Bool) : Prop where
  ok : R.2 = decide (0 < cnts F r c 24)
  y1 : R.2 = true → R.1.y1 = R.1.y0 + 1
  x1 : R.2 = true → R.1.x1 - R.1.x0 = (cnts F r c 24 : Int)
  bnd : R.2 = true → 0 ≤ R.1.y0 ∧ R.1.y0 < 24 ∧ 0 ≤ R.1.x0 ∧ R.1.x0 < R.1.x1 ∧ R.1.x1 ≤ 80
  f0 : R.2 = true → (F R.1.y0.toNat R.1.x0.toNat).fR = r ∧ (F R.1.y0.toNat R.1.x0.toNat).fC = c
  f1 : R.2 = true → (F R.1.y0.toNat (R.1.x1 - 1).toNat).fR = r ∧ (F R.1.y0.toNat (R.1.x1 - 1).toNat).fC = c
theorem ReachOk.no {F : Nat → Nat → Spot} {r c : Nat} {R : Rc × Bool} (h : R.2 = false) (hz : cnts F r c 24 = 0) : ReachOk F r c R :=
  ⟨by rw [h, hz]; rfl, fun h' => absurd (h.symm.trans h') (by decide), fun h' => absurd (h.symm.trans h') (by decide), fun h' => absurd (h.symm.trans h') (by decide), fun h' => absurd (h.symm.trans h') (by decide), fun h' => absurd (h.symm.trans h') (by decide)⟩
theorem reach_law {S : Sh} {V : Vw} (hS : S.Ok) (hV : V.Ok) {r c : Nat} (hr : r < 64) (hc : c < 26) : ReachOk (frameOf S V) r c (reachR S V (r : Int) (c : Int)) := by
  unfold reachR
  simp only [Int.toNat_natCast]
  have hin : inS (r : Int) (c : Int) = true := by
    unfold inS
    simp
    omega
  have hno : (∀ y x, (frameOf S V y x).of r c = false) → cnts (frameOf S V) r c 24 = 0 := fun h => cnts_zero _ r c 24 (fun y x _ _ => h y x)
  split
  · rename_i ho
    split
    · rename_i ht
      -- its text line
      obtain ⟨Y, hY⟩ : ∃ Y : Nat, tlY (rowAx S V 0 0 0) r (areaOf S r c).b = (Y : Int) ∧ Y < 24 := by
        have hd := of_decide_eq_true ht
        have e : (rowAx S V 0 0 0).hi ≤ 24 ∧ (rowAx S V 0 0 0).edge ≤ 24 := by
          constructor
          · show hiOf 64 24 V.fr V.sr (rowSz S) ≤ 24
            unfold hiOf
            omega
          · show edgeOf 24 V.fr (rowSz S) ≤ 24
            unfold edgeOf
            omega
        have eb : (rowAx S V 0 0 0).bHi (homeI (rowAx S V 0 0 0) r (areaOf S r c).b) ≤ 24 := by
          unfold Ax.bHi
          split <;> omega
        refine ⟨(tlY (rowAx S V 0 0 0) r (areaOf S r c).b).toNat, ?_, ?_⟩
        · unfold tlY
          omega
        · unfold tlY
          omega
      obtain ⟨hY1, hY2⟩ := hY
      have eF : paintOf S V Y 0 80 blank = frameOf S V Y := rfl
      simp only [hY1, Int.toNat_natCast, eF]
      have hs := scan_ok (frameOf S V Y) r c 80
      generalize scanK (frameOf S V Y) r c 80 = ab at hs ⊢
      obtain ⟨a, b⟩ := ab
      simp only at hs ⊢
      have hother : ∀ y x, y ≠ Y → (frameOf S V y x).of r c = false := fun y x hy => by
        cases h : (frameOf S V y x).of r c with
        | false => rfl
        | true =>
          obtain ⟨_, _, _, _, _, h6⟩ := of_line hS hV h
          rw [hY1] at h6
          omega
      have hone : cnts (frameOf S V) r c 24 = cnt (fun x => (frameOf S V Y x).of r c) 80 := cnts_one _ r c Y 24 hY2 (fun y x _ hn _ => hother y x hn)
      rcases Nat.eq_zero_or_pos b with hb | hb
      · refine ReachOk.no (by simp [hb]) ?_
        rw [hone]
        exact cnt_zero _ 80 (fun x hx => hs.none_ hb x hx)
      · have hlt := hs.lt hb
        have hle := hs.le
        have hcnt : cnts (frameOf S V) r c 24 = b - a := by
          rw [hone]
          refine cnt_run _ a b (by omega) 80 hle (fun x hx => ⟨fun h => hs.all x hx h, fun h => ?_⟩)
          exact of_convex hS hV h.1 (show x ≤ b - 1 by omega) (hs.first hb) (hs.last hb)
        have g0 := (Spot.of_iff _ _ _).1 (hs.first hb)
        have g1 := (Spot.of_iff _ _ _).1 (hs.last hb)
        have eb : ((b : Int) - 1).toNat = b - 1 := by omega
        refine ⟨?_, fun _ => rfl, fun _ => ?_, fun _ => ?_, fun _ => ?_, fun _ => ?_⟩
        · show decide (0 < b) = _
          rw [hcnt, decide_eq_true hb, decide_eq_true (by omega)]
        · show (b : Int) - (a : Int) = _
          rw [hcnt]
          omega
        · show 0 ≤ (Y : Int) ∧ (Y : Int) < 24 ∧ 0 ≤ (a : Int) ∧ (a : Int) < (b : Int) ∧ (b : Int) ≤ 80
          omega
        · exact g0.2
        · show (frameOf S V (Y : Int).toNat ((b : Int) - 1).toNat).fR = r ∧ (frameOf S V (Y : Int).toNat ((b : Int) - 1).toNat).fC = c
          rw [eb]
          exact g1.2
    · rename_i ht
      exact ReachOk.no rfl (hno fun y x => by
        cases h : (frameOf S V y x).of r c with
        | false => rfl
        | true =>
          obtain ⟨_, _, _, _, h5, _⟩ := of_line hS hV h
          exact absurd h5 ht)
  · rename_i ho
    exact ReachOk.no rfl (hno fun y x => by
      cases h : (frameOf S V y x).of r c with
      | false => rfl
      | true =>
        obtain ⟨_, _, h3, h4, _, _⟩ := of_line hS hV h
        exact absurd ⟨hin, h3, h4⟩ ho)
end Go.Proofs.Qxb6500653a
