/-
  EveryPosition: an axis by its sums: which line shows at a position.
-/
import Derived.Test.Qxb6500653aRects
import Derived.Test.Qxb6500653aPanes
namespace Go.Proofs.Qxb6500653a
open Go.RowKit

section
variable {n m fz sc : Nat} {sz : Nat → Nat}

/-- how deep a position lies in the lines' sums -/
def uOf (m fz sc : Nat) (sz : Nat → Nat) (p : Nat) : Nat := if p < edgeOf m fz sz then p else p - edgeOf m fz sz + sums sz sc
theorem edge_le : edgeOf m fz sz ≤ sums sz fz ∧ edgeOf m fz sz ≤ m := by unfold edgeOf; omega
theorem u_lt {p : Nat} (h : p < edgeOf m fz sz) : uOf m fz sc sz p = p ∧ uOf m fz sc sz p < sums sz fz := by
  have := edge_le (m := m) (fz := fz) (sz := sz)
  unfold uOf
  rw [if_pos h]
  omega
theorem u_ge (hfs : fz ≤ sc) {p : Nat} (h : edgeOf m fz sz ≤ p) : uOf m fz sc sz p = p - edgeOf m fz sz + sums sz sc ∧ sums sz sc ≤ uOf m fz sc sz p ∧ sums sz fz ≤ uOf m fz sc sz p := by
  have := sums_mono sz hfs
  unfold uOf
  rw [if_neg (by omega)]
  omega
theorem u_mono (hfs : fz ≤ sc) {p q : Nat} (h : p ≤ q) : uOf m fz sc sz p ≤ uOf m fz sc sz q := by
  have he := edge_le (m := m) (fz := fz) (sz := sz)
  have hs := sums_mono sz hfs
  unfold uOf
  split <;> split <;> omega
/-- a stretch of lines in the first band, in the second -/
theorem clip0_iff (_hfs : fz ≤ sc) {f t p : Nat} (_hp : p < m) (_hft : f ≤ t) (l : Nat → Int) : (((ax0 n m fz sc sz 0 0 0 l).clip0 f t).1 ≤ (p : Int) ∧ (p : Int) < ((ax0 n m fz sc sz 0 0 0 l).clip0 f t).2) ↔ p < edgeOf m fz sz ∧ sums sz f ≤ uOf m fz sc sz p ∧ uOf m fz sc sz p < sums sz (t + 1) := by
  have he := edge_le (m := m) (fz := fz) (sz := sz)
  by_cases hf : f < fz
  · have e : (ax0 n m fz sc sz 0 0 0 l).clip0 f t = (max ((sums sz f : Nat) : Int) 0, min (((sums sz (min t (fz - 1)) : Nat) : Int) + ((sz (min t (fz - 1)) : Nat) : Int)) ((edgeOf m fz sz : Nat) : Int)) := by
      unfold Ax.clip0 Ax.span0
      rw [if_pos (show f < (ax0 n m fz sc sz 0 0 0 l).fz from hf)]
      have e1 : (ax0 n m fz sc sz 0 0 0 l).st f = ((sums sz f : Nat) : Int) := if_pos hf
      have e2 : (ax0 n m fz sc sz 0 0 0 l).st (min t (fz - 1)) = ((sums sz (min t (fz - 1)) : Nat) : Int) := if_pos (by omega)
      show (max ((ax0 n m fz sc sz 0 0 0 l).st f) 0, min ((ax0 n m fz sc sz 0 0 0 l).st (min t (fz - 1)) + ((sz (min t (fz - 1)) : Nat) : Int)) ((edgeOf m fz sz : Nat) : Int)) = _
      rw [e1, e2]
    rw [e]
    simp only
    have es : sums sz (min t (fz - 1) + 1) = sums sz (min t (fz - 1)) + sz (min t (fz - 1)) := rfl
    constructor
    · intro ⟨h1, h2⟩
      have hpe : p < edgeOf m fz sz := by omega
      obtain ⟨k1, k2⟩ := u_lt (sc := sc) hpe
      have := sums_mono sz (show min t (fz - 1) + 1 ≤ t + 1 by omega)
      exact ⟨hpe, by omega, by omega⟩
    · rintro ⟨h1, h2, h3⟩
      obtain ⟨k1, k2⟩ := u_lt (sc := sc) h1
      refine ⟨by omega, ?_⟩
      rcases Nat.lt_or_ge t fz with h | h
      · have e3 : min t (fz - 1) = t := by omega
        rw [e3] at es ⊢
        omega
      · have e3 : min t (fz - 1) = fz - 1 := by omega
        rw [e3] at es ⊢
        have e4 : fz - 1 + 1 = fz := by omega
        rw [e4] at es
        omega
  · have e : (ax0 n m fz sc sz 0 0 0 l).clip0 f t = (0, min 0 ((edgeOf m fz sz : Nat) : Int)) := by
      unfold Ax.clip0 Ax.span0
      rw [if_neg (show ¬ f < (ax0 n m fz sc sz 0 0 0 l).fz from hf)]
      rfl
    rw [e]
    simp only
    constructor
    · intro ⟨h1, h2⟩; omega
    · rintro ⟨h1, h2, h3⟩
      obtain ⟨k1, k2⟩ := u_lt (sc := sc) h1
      have := sums_mono sz (show fz ≤ f by omega)
      omega
theorem clip1_iff (hfs : fz ≤ sc) (hsn : sc < n) {f t p : Nat} (hp : p < m) (_hft : f ≤ t) (ht : t < n) (l : Nat → Int) : (((ax0 n m fz sc sz 0 0 0 l).clip1 f t).1 ≤ (p : Int) ∧ (p : Int) < ((ax0 n m fz sc sz 0 0 0 l).clip1 f t).2) ↔ edgeOf m fz sz ≤ p ∧ sums sz f ≤ uOf m fz sc sz p ∧ uOf m fz sc sz p < sums sz (t + 1) := by
  have he := edge_le (m := m) (fz := fz) (sz := sz)
  have hn := sums_mono sz (show sc ≤ n by omega)
  have ehi : ((ax0 n m fz sc sz 0 0 0 l).hi : Nat) = min (edgeOf m fz sz + (sums sz n - sums sz sc)) m := rfl
  by_cases hf : fz ≤ t
  · have e : (ax0 n m fz sc sz 0 0 0 l).clip1 f t = (max (((edgeOf m fz sz : Nat) : Int) + ((sums sz (max f fz) : Nat) : Int) - ((sums sz sc : Nat) : Int)) ((edgeOf m fz sz : Nat) : Int), min (((edgeOf m fz sz : Nat) : Int) + ((sums sz t : Nat) : Int) - ((sums sz sc : Nat) : Int) + ((sz t : Nat) : Int)) (((ax0 n m fz sc sz 0 0 0 l).hi : Nat) : Int)) := by
      unfold Ax.clip1 Ax.span1
      rw [if_pos (show (ax0 n m fz sc sz 0 0 0 l).fz ≤ t from hf)]
      have e1 : (ax0 n m fz sc sz 0 0 0 l).st (max f fz) = ((edgeOf m fz sz : Nat) : Int) + ((sums sz (max f fz) : Nat) : Int) - ((sums sz sc : Nat) : Int) := if_neg (by omega)
      have e2 : (ax0 n m fz sc sz 0 0 0 l).st t = ((edgeOf m fz sz : Nat) : Int) + ((sums sz t : Nat) : Int) - ((sums sz sc : Nat) : Int) := if_neg (by omega)
      show (max ((ax0 n m fz sc sz 0 0 0 l).st (max f fz)) ((edgeOf m fz sz : Nat) : Int), min ((ax0 n m fz sc sz 0 0 0 l).st t + ((sz t : Nat) : Int)) (((ax0 n m fz sc sz 0 0 0 l).hi : Nat) : Int)) = _
      rw [e1, e2]
    rw [e, ehi]
    simp only
    have es : sums sz (t + 1) = sums sz t + sz t := rfl
    have htn := sums_mono sz (show t + 1 ≤ n by omega)
    have hmf := sums_mono sz (show f ≤ max f fz by omega)
    constructor
    · intro ⟨h1, h2⟩
      have hpe : edgeOf m fz sz ≤ p := by omega
      obtain ⟨k1, k2, k3⟩ := u_ge (m := m) (sz := sz) hfs hpe
      exact ⟨hpe, by omega, by omega⟩
    · rintro ⟨h1, h2, h3⟩
      obtain ⟨k1, k2, k3⟩ := u_ge (m := m) (sz := sz) hfs h1
      refine ⟨?_, by omega⟩
      rcases Nat.lt_or_ge f fz with h | h
      · have e3 : max f fz = fz := by omega
        rw [e3]
        omega
      · have e3 : max f fz = f := by omega
        rw [e3]
        omega
  · have e : (ax0 n m fz sc sz 0 0 0 l).clip1 f t = (max 0 ((edgeOf m fz sz : Nat) : Int), min 0 (((ax0 n m fz sc sz 0 0 0 l).hi : Nat) : Int)) := by
      unfold Ax.clip1 Ax.span1
      rw [if_neg (show ¬ (ax0 n m fz sc sz 0 0 0 l).fz ≤ t from hf)]
      rfl
    rw [e]
    simp only
    constructor
    · intro ⟨h1, h2⟩; omega
    · rintro ⟨h1, h2, h3⟩
      obtain ⟨k1, k2, k3⟩ := u_ge (m := m) (sz := sz) hfs h1
      have := sums_mono sz (show t + 1 ≤ fz by omega)
      omega
/-- one line shows at a position -/
theorem c_iff (hfs : fz ≤ sc) (hsn : sc < n) {k p : Nat} (hp : p < m) (hk : k < n) : (cLo n m fz sc sz k ≤ (p : Int) ∧ (p : Int) < cHi n m fz sc sz k) ↔ sums sz k ≤ uOf m fz sc sz p ∧ uOf m fz sc sz p < sums sz (k + 1) := by
  unfold cLo cHi
  by_cases hf : k < fz
  · rw [if_pos hf, if_pos hf, clip0_iff hfs hp (Nat.le_refl _)]
    constructor
    · intro h; exact h.2
    · rintro ⟨h1, h2⟩
      refine ⟨?_, h1, h2⟩
      rcases Nat.lt_or_ge p (edgeOf m fz sz) with h | h
      · exact h
      · obtain ⟨k1, k2, k3⟩ := u_ge (m := m) (sz := sz) hfs h
        have := sums_mono sz (show k + 1 ≤ fz by omega)
        omega
  · rw [if_neg hf, if_neg hf, clip1_iff hfs hsn hp (Nat.le_refl _) hk]
    constructor
    · intro h; exact h.2
    · rintro ⟨h1, h2⟩
      refine ⟨?_, h1, h2⟩
      rcases Nat.lt_or_ge p (edgeOf m fz sz) with h | h
      · obtain ⟨k1, k2⟩ := u_lt (sc := sc) h
        have := sums_mono sz (show fz ≤ k by omega)
        omega
      · exact h
theorem sums_one {k j u : Nat} (h1 : sums sz k ≤ u) (h2 : u < sums sz (k + 1)) (h3 : sums sz j ≤ u) (h4 : u < sums sz (j + 1)) : k = j := by
  rcases Nat.lt_trichotomy k j with h | h | h
  · have := sums_mono sz (show k + 1 ≤ j by omega); omega
  · exact h
  · have := sums_mono sz (show j + 1 ≤ k by omega); omega
theorem lnK_iff (hfs : fz ≤ sc) (hsn : sc < n) {p : Nat} (hp : p < m) : ∀ K, K ≤ n → (∀ k : Nat, k < K → (lnK n m fz sc sz K p = (k : Int) ↔ sums sz k ≤ uOf m fz sc sz p ∧ uOf m fz sc sz p < sums sz (k + 1)))
  | 0, _ => fun k hk => by omega
  | K + 1, hK => fun k hk => by
    have ih := lnK_iff hfs hsn hp K (by omega)
    by_cases hc : cLo n m fz sc sz K ≤ (p : Int) ∧ (p : Int) < cHi n m fz sc sz K
    · have e : lnK n m fz sc sz (K + 1) p = (K : Int) := if_pos hc
      have hc' := (c_iff hfs hsn hp (by omega)).1 hc
      rw [e]
      constructor
      · intro h
        have : k = K := by omega
        subst this
        exact hc'
      · rintro ⟨h1, h2⟩
        have := sums_one h1 h2 hc'.1 hc'.2
        omega
    · have e : lnK n m fz sc sz (K + 1) p = lnK n m fz sc sz K p := if_neg hc
      rw [e]
      rcases Nat.lt_or_ge k K with h | h
      · exact ih k h
      · have hkK : k = K := by omega
        subst hkK
        constructor
        · intro h'
          rcases lnK_cases n m fz sc sz k p with h2 | ⟨i, h2, h3⟩
          · omega
          · omega
        · rintro ⟨h1, h2⟩
          exact absurd ((c_iff hfs hsn hp (by omega)).2 ⟨h1, h2⟩) hc
theorem sums_find {u : Nat} : ∀ K, u < sums sz K → ∃ k, k < K ∧ sums sz k ≤ u ∧ u < sums sz (k + 1)
  | 0, h => by
    have : sums sz 0 = 0 := rfl
    omega
  | K + 1, h => by
    rcases Nat.lt_or_ge u (sums sz K) with h' | h'
    · obtain ⟨k, k1, k2⟩ := sums_find K h'
      exact ⟨k, by omega, k2⟩
    · exact ⟨K, by omega, h', h⟩
/-- a line shows at p just if p lies in the lines' sums -/
theorem ln_shows (hfs : fz ≤ sc) (hsn : sc < n) {p : Nat} (hp : p < m) : 0 ≤ lnK n m fz sc sz n p ↔ uOf m fz sc sz p < sums sz n := by
  constructor
  · intro h
    rcases lnK_cases n m fz sc sz n p with h2 | ⟨i, h2, h3⟩
    · omega
    · have h4 := (lnK_iff hfs hsn hp n (Nat.le_refl _) i h2).1 h3
      have := sums_mono sz (show i + 1 ≤ n by omega)
      omega
  · intro h
    obtain ⟨k, k1, k2, k3⟩ := sums_find n h
    have := (lnK_iff hfs hsn hp n (Nat.le_refl _) k k1).2 ⟨k2, k3⟩
    omega
theorem ln_hi (hfs : fz ≤ sc) (hsn : sc < n) {p : Nat} (hp : p < m) : 0 ≤ lnK n m fz sc sz n p ↔ p < hiOf n m fz sc sz := by
  rw [ln_shows hfs hsn hp]
  have he := edge_le (m := m) (fz := fz) (sz := sz)
  have h1 := sums_mono sz hfs
  have h2 := sums_mono sz (show sc ≤ n by omega)
  unfold hiOf
  rcases Nat.lt_or_ge p (edgeOf m fz sz) with h | h
  · obtain ⟨k1, k2⟩ := u_lt (sc := sc) h
    constructor <;> intro _ <;> omega
  · obtain ⟨k1, k2, k3⟩ := u_ge (m := m) (sz := sz) hfs h
    constructor <;> intro _ <;> omega
/-- the lines rise along the screen, without a gap -/
theorem ln_mono (hfs : fz ≤ sc) (hsn : sc < n) {p q : Nat} (hpq : p ≤ q) (hq : q < m) (h : 0 ≤ lnK n m fz sc sz n q) : 0 ≤ lnK n m fz sc sz n p ∧ lnK n m fz sc sz n p ≤ lnK n m fz sc sz n q := by
  have hu := u_mono (m := m) (sz := sz) hfs hpq
  have h1 := (ln_shows hfs hsn hq).1 h
  have h2 : 0 ≤ lnK n m fz sc sz n p := (ln_shows hfs hsn (show p < m by omega)).2 (by omega)
  refine ⟨h2, ?_⟩
  rcases lnK_cases n m fz sc sz n p with h3 | ⟨i, i1, i2⟩
  · omega
  · rcases lnK_cases n m fz sc sz n q with h3 | ⟨j, j1, j2⟩
    · omega
    · have a := (lnK_iff hfs hsn (show p < m by omega) n (Nat.le_refl _) i i1).1 i2
      have b := (lnK_iff hfs hsn hq n (Nat.le_refl _) j j1).1 j2
      rw [i2, j2]
      rcases Nat.lt_or_ge j i with h4 | h4
      · have := sums_mono sz (show j + 1 ≤ i by omega)
        omega
      · omega
/-- a stretch of lines holds a position just if its line is among them -/
theorem ln_within (hfs : fz ≤ sc) (hsn : sc < n) {f t p : Nat} (hp : p < m) (_hft : f ≤ t) (ht : t < n) : ((f : Int) ≤ lnK n m fz sc sz n p ∧ lnK n m fz sc sz n p ≤ (t : Int)) ↔ sums sz f ≤ uOf m fz sc sz p ∧ uOf m fz sc sz p < sums sz (t + 1) := by
  constructor
  · rintro ⟨h1, h2⟩
    rcases lnK_cases n m fz sc sz n p with h3 | ⟨i, i1, i2⟩
    · omega
    · have a := (lnK_iff hfs hsn hp n (Nat.le_refl _) i i1).1 i2
      have b := sums_mono sz (show f ≤ i by omega)
      have c := sums_mono sz (show i + 1 ≤ t + 1 by omega)
      omega
  · rintro ⟨h1, h2⟩
    have h3 := sums_mono sz (show t + 1 ≤ n by omega)
    obtain ⟨k, k1, k2, k3⟩ := sums_find (sz := sz) n (show uOf m fz sc sz p < sums sz n by omega)
    have e := (lnK_iff hfs hsn hp n (Nat.le_refl _) k k1).2 ⟨k2, k3⟩
    rw [e]
    constructor
    · rcases Nat.lt_or_ge k f with h | h
      · have := sums_mono sz (show k + 1 ≤ f by omega); omega
      · omega
    · rcases Nat.lt_or_ge t k with h | h
      · have := sums_mono sz (show t + 1 ≤ k by omega); omega
      · omega
/-- the band of a position -/
def bandP (m fz : Nat) (sz : Nat → Nat) (p : Nat) : Nat := if p < edgeOf m fz sz then 0 else 1
/-- a stretch of lines, clipped to a band -/
theorem clipB_iff (hfs : fz ≤ sc) (hsn : sc < n) {f t p i : Nat} (hi : i < 2) (hp : p < m) (hft : f ≤ t) (ht : t < n) : (((mkAx n m fz sc sz 0 0 0).clipB i f t).1 ≤ (p : Int) ∧ (p : Int) < ((mkAx n m fz sc sz 0 0 0).clipB i f t).2) ↔ bandP m fz sz p = i ∧ (f : Int) ≤ lnK n m fz sc sz n p ∧ lnK n m fz sc sz n p ≤ (t : Int) := by
  rw [ln_within hfs hsn hp hft ht]
  unfold bandP
  rcases (show i = 0 ∨ i = 1 by omega) with rfl | rfl
  · have e : (mkAx n m fz sc sz 0 0 0).clipB 0 f t = (ax0 n m fz sc sz 0 0 0 (lnK n m fz sc sz n)).clip0 f t := rfl
    rw [e, clip0_iff hfs hp hft]
    constructor
    · rintro ⟨h1, h2⟩; exact ⟨if_pos h1, h2⟩
    · rintro ⟨h1, h2⟩
      refine ⟨?_, h2⟩
      by_cases hh : p < edgeOf m fz sz
      · exact hh
      · rw [if_neg hh] at h1; cases h1
  · have e : (mkAx n m fz sc sz 0 0 0).clipB 1 f t = (ax0 n m fz sc sz 0 0 0 (lnK n m fz sc sz n)).clip1 f t := rfl
    rw [e, clip1_iff hfs hsn hp hft ht]
    constructor
    · rintro ⟨h1, h2⟩; exact ⟨if_neg (by omega), h2⟩
    · rintro ⟨h1, h2⟩
      refine ⟨?_, h2⟩
      by_cases hh : p < edgeOf m fz sz
      · rw [if_pos hh] at h1; cases h1
      · omega
/-- a line that shows has a size -/
theorem ln_size (hfs : fz ≤ sc) (hsn : sc < n) {k p : Nat} (hp : p < m) (hk : k < n) (h : lnK n m fz sc sz n p = (k : Int)) : 0 < sz k := by
  have a := (lnK_iff hfs hsn hp n (Nat.le_refl _) k hk).1 h
  have e : sums sz (k + 1) = sums sz k + sz k := rfl
  omega
/-- which lines each band shows -/
theorem ln_band (hfs : fz ≤ sc) (hsn : sc < n) {k p : Nat} (hp : p < m) (hk : k < n) (h : lnK n m fz sc sz n p = (k : Int)) : (p < edgeOf m fz sz → k < fz) ∧ (edgeOf m fz sz ≤ p → sc ≤ k) := by
  have a := (lnK_iff hfs hsn hp n (Nat.le_refl _) k hk).1 h
  constructor
  · intro hh
    obtain ⟨k1, k2⟩ := u_lt (sc := sc) hh
    rcases Nat.lt_or_ge k fz with h' | h'
    · exact h'
    · have := sums_mono sz h'; omega
  · intro hh
    obtain ⟨k1, k2, k3⟩ := u_ge (m := m) (sz := sz) hfs hh
    rcases Nat.lt_or_ge k sc with h' | h'
    · have := sums_mono sz (show k + 1 ≤ sc by omega); omega
    · exact h'
end
end Go.Proofs.Qxb6500653a
