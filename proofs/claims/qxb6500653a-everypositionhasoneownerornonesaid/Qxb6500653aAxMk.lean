/-
  THE AXIS THAT newAxis MAKES, as a plain term.
-/
import Derived.Test.Qxb6500653aAxSt
namespace Go.Proofs.Qxb6500653a
open Go.RowKit

def edgeOf (m fz : Nat) (sz : Nat → Nat) : Nat := min (sums sz fz) m
def stOf (m fz sc : Nat) (sz : Nat → Nat) (i : Nat) : Int := if i < fz then (sums sz i : Int) else (edgeOf m fz sz : Int) + (sums sz i : Int) - (sums sz sc : Int)
def hiOf (n m fz sc : Nat) (sz : Nat → Nat) : Nat := min (edgeOf m fz sz + (sums sz n - sums sz sc)) m
/-- the axis before its lines' row is filled -/
def ax0 (n m fz sc : Nat) (sz : Nat → Nat) (zb tb lb : Nat) (l : Nat → Int) : Ax :=
  { n := n, m := m, sz := sz, st := stOf m fz sc sz, fz := fz, edge := edgeOf m fz sz, hi := hiOf n m fz sc sz, ln := l, zb := zb, tb := tb, lb := lb }
/-- the screen's positions that line k covers -/
def cLo (n m fz sc : Nat) (sz : Nat → Nat) (k : Nat) : Int := if k < fz then ((ax0 n m fz sc sz 0 0 0 (fun _ => 0)).clip0 k k).1 else ((ax0 n m fz sc sz 0 0 0 (fun _ => 0)).clip1 k k).1
def cHi (n m fz sc : Nat) (sz : Nat → Nat) (k : Nat) : Int := if k < fz then ((ax0 n m fz sc sz 0 0 0 (fun _ => 0)).clip0 k k).2 else ((ax0 n m fz sc sz 0 0 0 (fun _ => 0)).clip1 k k).2
def lnK (n m fz sc : Nat) (sz : Nat → Nat) : Nat → Nat → Int
  | 0, _ => -1
  | k + 1, p => if cLo n m fz sc sz k ≤ p ∧ (p : Int) < cHi n m fz sc sz k then (k : Int) else lnK n m fz sc sz k p
def mkAx (n m fz sc : Nat) (sz : Nat → Nat) (zb tb lb : Nat) : Ax := ax0 n m fz sc sz zb tb lb (lnK n m fz sc sz n)

/-- what the walk knows of the sizes -/
structure SzOk (n m fz sc : Nat) (sz : Nat → Nat) : Prop where
  hn : n ≤ 64
  hm : m ≤ 80
  hfz : fz ≤ sc
  hsc : sc < n
  hsz : ∀ i, sz i ≤ 80
  hout : ∀ i, n ≤ i → sz i = 0

theorem sums_out {sz : Nat → Nat} {n : Nat} (h : ∀ i, n ≤ i → sz i = 0) (k : Nat) : sums sz k ≤ sums sz n := by
  rcases Nat.le_total k n with hk | hk
  · exact sums_mono sz hk
  · induction k with
    | zero => simp [sums]
    | succ k ih =>
      rcases Nat.lt_or_ge k n with h' | h'
      · have : k + 1 = n := by omega
        rw [this]; exact Nat.le_refl _
      · simp only [sums]; rw [h k h']; exact ih h'
theorem SzOk.sum {n m fz sc : Nat} {sz : Nat → Nat} (h : SzOk n m fz sc sz) (k : Nat) : sums sz k ≤ 5120 := by
  have h1 := sums_out h.hout k
  have h2 := sums_le sz 80 h.hsz n
  have h3 := h.hn
  have : n * 80 ≤ 64 * 80 := Nat.mul_le_mul_right 80 h3
  omega
theorem SzOk.ok {n m fz sc : Nat} {sz : Nat → Nat} (h : SzOk n m fz sc sz) (zb tb lb : Nat) (l : Nat → Int) : (ax0 n m fz sc sz zb tb lb l).Ok := by
  have h1 := h.hn
  have h2 := h.hm
  have h3 := h.hfz
  have h4 := h.hsc
  refine ⟨h1, h2, h.hsz, fun i => ?_, by show fz < n; omega, Nat.min_le_right _ _, Nat.min_le_right _ _⟩
  show -10000 ≤ stOf m fz sc sz i ∧ stOf m fz sc sz i ≤ 10000
  have a := h.sum i
  have b := h.sum sc
  have c : edgeOf m fz sz ≤ m := Nat.min_le_right _ _
  unfold stOf
  split <;> omega

/-- the cells of the two bands -/
def bandB (n fz edge hi : Nat) (j : Nat) : Int := match j with
  | 0 => 0
  | 1 => fz
  | 2 => 0
  | 3 => edge
  | 4 => fz
  | 5 => n
  | 6 => edge
  | _ => hi
theorem AxSt.axAt {w0 wr : World} {ab zb tb lb n m fz sc : Nat} {sz : Nat → Nat} {l : Nat → Int}
    (h : AxSt w0 wr ab zb tb lb n m (fun i => (sz i : Int)) (stOf m fz sc sz) l (bandB n fz (edgeOf m fz sz) (hiOf n m fz sc sz))) : AxAt wr ab (ax0 n m fz sc sz zb tb lb l) :=
  ⟨h.c0, h.c1, h.cb 0 (by omega), h.cb 1 (by omega), h.cb 2 (by omega), h.cb 3 (by omega), h.cb 4 (by omega), h.cb 5 (by omega), h.cb 6 (by omega), h.cb 7 (by omega), h.c10, h.rz.at_, h.rt.at_, h.rl.at_⟩

theorem cLo_nonneg (n m fz sc : Nat) (sz : Nat → Nat) (k : Nat) : 0 ≤ cLo n m fz sc sz k := by
  unfold cLo
  split
  · exact Int.le_max_right _ _
  · exact Int.le_trans (Int.natCast_nonneg _) (Int.le_max_right _ _)
theorem cHi_le (n m fz sc : Nat) (sz : Nat → Nat) (k : Nat) : cHi n m fz sc sz k ≤ m := by
  have e1 : ((edgeOf m fz sz : Nat) : Int) ≤ m := by have := Nat.min_le_right (sums sz fz) m; unfold edgeOf; omega
  have e2 : ((hiOf n m fz sc sz : Nat) : Int) ≤ m := by have := Nat.min_le_right (edgeOf m fz sz + (sums sz n - sums sz sc)) m; unfold hiOf; omega
  unfold cHi
  split
  · exact Int.le_trans (Int.min_le_right _ _) e1
  · exact Int.le_trans (Int.min_le_right _ _) e2

theorem clip_own (w : World) (ab n m fz sc : Nat) (sz : Nat → Nat) (zb tb lb : Nat) (l : Nat → Int) (hA : AxAt w ab (ax0 n m fz sc sz zb tb lb l)) (ok : SzOk n m fz sc sz) (k : Nat) (hk : k < n) (bo : Nat) (hbo : bo = if k < fz then 2 else 6) :
    Calls Try.prog 38 #[.pointer (some ⟨ab, 0, none⟩), .int .i64 (k : Int), .int .i64 (k : Int), .pointer (some ⟨ab, bo, none⟩)] w fun e w' => e = .returned (.tuple #[.int .i64 (cLo n m fz sc sz k), .int .i64 (cHi n m fz sc sz k)]) ∧ ∃ q, w' = w.drewN q := by
  subst hbo
  unfold cLo cHi
  by_cases h : k < fz
  · rw [if_pos h, if_pos h, if_pos h]
    exact clip_zero w ab _ hA (ok.ok _ _ _ _) k k (Nat.le_refl _) hk
  · rw [if_neg h, if_neg h, if_neg h]
    exact clip_one w ab _ hA (ok.ok _ _ _ _) k k (Nat.le_refl _) hk
theorem bandOf_own (w : World) (ab n m fz sc : Nat) (sz : Nat → Nat) (zb tb lb : Nat) (l : Nat → Int) (hA : AxAt w ab (ax0 n m fz sc sz zb tb lb l)) (k : Nat) (bo : Nat) (hbo : bo = if k < fz then 2 else 6) :
    Calls Try.prog 60 #[.pointer (some ⟨ab, 0, none⟩), .int .i64 (k : Int)] w fun e w' => e = .returned (.pointer (some ⟨ab, bo, none⟩)) ∧ w' = w := by
  subst hbo
  exact bandOf_any w ab _ hA k

/-- what newAxis leaves -/
def NAPost (n m fz sc : Nat) (sz : Nat → Nat) (w : World) (e : Ending) (w' : World) : Prop :=
  ∃ ab zb tb lb, e = .returned (.pointer (some ⟨ab, 0, none⟩)) ∧ Kp no w w' ∧ AxAt w' ab (mkAx n m fz sc sz zb tb lb) ∧ w.heap.size ≤ ab
end Go.Proofs.Qxb6500653a
