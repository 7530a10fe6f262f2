/-
  ReachCoversTheText: Reach's scan of a line; counting.
-/
import Derived.Test.Qxb6500653aDraws
namespace Go.Proofs.Qxb6500653a
open Go.RowKit

/-- the position bears a character of the cell's text -/
def Spot.of (s : Spot) (r c : Nat) : Bool := s.drawn && decide (s.fR = r) && decide (s.fC = c)
theorem Spot.of_iff (s : Spot) (r c : Nat) : s.of r c = true ↔ s.drawn = true ∧ s.fR = r ∧ s.fC = c := by
  unfold Spot.of
  simp [and_assoc]
structure ScanOk (L : Nat → Spot) (r c n a b : Nat) : Prop where
  none_ : b = 0 → ∀ x, x < n → (L x).of r c = false
  lt : 0 < b → a < b
  first : 0 < b → (L a).of r c = true
  last : 0 < b → (L (b - 1)).of r c = true
  all : ∀ x, x < n → (L x).of r c = true → a ≤ x ∧ x < b
  le : b ≤ n
theorem scan_ok (L : Nat → Spot) (r c : Nat) : ∀ n, ScanOk L r c n (scanK L r c n).1 (scanK L r c n).2
  | 0 => ⟨fun _ x hx => by omega, fun h => absurd h (Nat.lt_irrefl _), fun h => absurd h (Nat.lt_irrefl _), fun h => absurd h (Nat.lt_irrefl _), fun x hx => by omega, Nat.le_refl _⟩
  | n + 1 => by
    have ih := scan_ok L r c n
    by_cases hn : (L n).drawn = true ∧ (L n).fR = r ∧ (L n).fC = c
    · have hof : (L n).of r c = true := (Spot.of_iff _ _ _).2 hn
      have e : scanK L r c (n + 1) = (if (scanK L r c n).2 = 0 then n else (scanK L r c n).1, n + 1) := by
        simp only [scanK]
        rw [if_pos hn]
      rw [e]
      refine ⟨fun h => absurd h (Nat.succ_ne_zero _), fun _ => ?_, fun _ => ?_, fun _ => ?_, fun x hx hx' => ?_, Nat.le_refl _⟩
      · show (if _ then n else _) < n + 1
        split
        · omega
        · have h1 := ih.lt (by omega)
          have h2 := ih.le
          omega
      · show (L (if _ then n else _)).of r c = true
        split
        · exact hof
        · exact ih.first (by omega)
      · exact hof
      · show (if _ then n else _) ≤ x ∧ x < n + 1
        rcases Nat.lt_or_ge x n with h | h
        · split
          · rename_i h0
            have := ih.none_ h0 x h
            rw [hx'] at this
            cases this
          · exact ⟨(ih.all x h hx').1, by omega⟩
        · have : x = n := by omega
          subst this
          split
          · omega
          · have h1 := ih.lt (by omega)
            have h2 := ih.le
            omega
    · have hof : (L n).of r c = false := by
        cases h : (L n).of r c with
        | false => rfl
        | true => exact absurd ((Spot.of_iff _ _ _).1 h) hn
      have e : scanK L r c (n + 1) = scanK L r c n := by
        simp only [scanK]
        rw [if_neg hn]
      rw [e]
      refine ⟨fun h x hx => ?_, ih.lt, ih.first, ih.last, fun x hx hx' => ?_, by have := ih.le; omega⟩
      · rcases Nat.lt_or_ge x n with h' | h'
        · exact ih.none_ h x h'
        · have : x = n := by omega
          subst this
          exact hof
      · rcases Nat.lt_or_ge x n with h' | h'
        · exact ih.all x h' hx'
        · have : x = n := by omega
          subst this
          rw [hof] at hx'
          cases hx'

/-- how many of the first n -/
def cnt (p : Nat → Bool) : Nat → Nat
  | 0 => 0
  | n + 1 => cnt p n + (if p n then 1 else 0)
theorem cnt_zero (p : Nat → Bool) : ∀ n, (∀ x, x < n → p x = false) → cnt p n = 0
  | 0, _ => rfl
  | n + 1, h => by
    simp only [cnt]
    rw [cnt_zero p n (fun x hx => h x (by omega)), h n (by omega)]
    rfl
/-- just an unbroken stretch -/
theorem cnt_run (p : Nat → Bool) (a b : Nat) (hab : a ≤ b) : ∀ n, b ≤ n → (∀ x, x < n → (p x = true ↔ a ≤ x ∧ x < b)) → cnt p n = b - a := by
  intro n
  induction n generalizing b with
  | zero => intro h _; have : b = 0 := by omega
            subst this; simp [cnt]
  | succ n ih =>
    intro hb hp
    simp only [cnt]
    rcases Nat.lt_or_ge n b with h | h
    · have e : b = n + 1 := by omega
      subst e
      rcases Nat.lt_or_ge n a with h1 | h1
      · have ea : a = n + 1 := by omega
        have hpn : p n = false := by
          cases hh : p n with
          | false => rfl
          | true => have := (hp n (by omega)).1 hh; omega
        have hz : cnt p n = 0 := cnt_zero p n (fun x hx => by
          cases hh : p x with
          | false => rfl
          | true => have := (hp x (by omega)).1 hh; omega)
        rw [hz, hpn, ea]; simp
      · have hpn : p n = true := (hp n (by omega)).2 ⟨h1, by omega⟩
        rw [ih n h1 (Nat.le_refl _) (fun x hx => by rw [hp x (by omega)]; constructor <;> intro h' <;> exact ⟨h'.1, by omega⟩), hpn]
        simp; omega
    · have hpn : p n = false := by
        cases hh : p n with
        | false => rfl
        | true => have := (hp n (by omega)).1 hh; omega
      rw [ih b hab h (fun x hx => hp x (by omega)), hpn]
      simp
end Go.Proofs.Qxb6500653a
