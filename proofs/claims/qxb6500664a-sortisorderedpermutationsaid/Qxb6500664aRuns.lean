/-
  RUNS: the rows between two passes of the sort. No Go in sight.
-/
import Derived.Test.Qxb6500664aOrd
namespace Go.Proofs.Qxb6500664a.Ord

/-- the elements from a on, at most w of them -/
def sg (p : List Nat) (a w : Nat) : List Nat := (p.drop a).take w

theorem sg_len (p : List Nat) (a w : Nat) : (sg p a w).length = min w (p.length - a) := by simp [sg]
theorem sg_add (p : List Nat) (a u v : Nat) : sg p a (u + v) = sg p a u ++ sg p (a + u) v := by
  unfold sg
  rw [List.take_add, List.drop_drop]
theorem sg_all (p : List Nat) (w : Nat) (h : p.length ≤ w) : sg p 0 w = p := by simp [sg, List.take_of_length_le h]
theorem sg_left (A s : List Nat) (a w : Nat) (h : a + w ≤ A.length) : sg (A ++ s) a w = sg A a w := by
  unfold sg
  rw [List.drop_append_of_le_length (by omega), List.take_append_of_le_length (by simp; omega)]
theorem sg_right (A s : List Nat) (w : Nat) (h : s.length ≤ w) : sg (A ++ s) A.length w = s := by
  unfold sg
  rw [List.drop_left, List.take_of_length_le h]
theorem sg_split (p : List Nat) (a w : Nat) : p.drop a = sg p a w ++ p.drop (a + w) := by
  unfold sg
  rw [← List.drop_drop, List.take_append_drop]

section
variable (K : Nat → List UInt8)

/-- each run of width wd is in order, and made of the tags that were there at first -/
def Runs (p0 A : List Nat) (wd : Nat) : Prop := ∀ i, i * wd < A.length → Srt K (sg A (i * wd) wd) ∧ (sg A (i * wd) wd).Perm (sg p0 (i * wd) wd)

theorem Runs.nil (p0 : List Nat) (wd : Nat) : Runs K p0 [] wd := fun i h => by simp at h

theorem Runs.snoc {p0 A s : List Nat} {wd c : Nat} (h : Runs K p0 A wd) (hA : A.length = c * wd) (hs : Srt K s) (hp : s.Perm (sg p0 (c * wd) wd)) : Runs K p0 (A ++ s) wd := by
  intro i hi
  have hsl : s.length ≤ wd := by rw [hp.length_eq, sg_len]; omega
  rw [List.length_append, hA] at hi
  rcases Nat.lt_or_ge i c with hic | hic
  · have h1 : i * wd + wd ≤ c * wd := by
      have : (i + 1) * wd ≤ c * wd := Nat.mul_le_mul_right wd hic
      rw [Nat.succ_mul] at this
      exact this
    rw [sg_left _ _ _ _ (by omega)]
    refine h i ?_
    rcases Nat.eq_zero_or_pos wd with h0 | h0
    · subst h0; simp at hi; omega
    · omega
  · have hic2 : i = c := by
      rcases Nat.lt_or_ge c i with hci | hci
      · have : (c + 1) * wd ≤ i * wd := Nat.mul_le_mul_right wd hci
        rw [Nat.succ_mul] at this
        omega
      · omega
    subst hic2
    rw [← hA, sg_right _ _ _ hsl, hA]
    exact ⟨hs, hp⟩

/-- one run: all is in order -/
theorem Runs.all {p0 A : List Nat} {wd : Nat} (h : Runs K p0 A wd) (hl : A.length = p0.length) (hw : A.length ≤ wd) : Srt K A ∧ A.Perm p0 := by
  rcases Nat.eq_zero_or_pos A.length with h0 | h0
  · have e1 := List.eq_nil_of_length_eq_zero h0
    have e2 := List.eq_nil_of_length_eq_zero (hl.symm.trans h0)
    subst e1 e2
    exact ⟨List.Pairwise.nil, List.Perm.refl _⟩
  · have := h 0 (by simpa using h0)
    rw [Nat.zero_mul, sg_all _ _ hw, sg_all _ _ (by omega)] at this
    exact this

/-- the two runs that are merged next -/
theorem Runs.two {p0 A : List Nat} {wd c : Nat} (hinc : p0.Pairwise (· < ·)) (h : Runs K p0 A wd) (hl : A.length = p0.length) (hc : c * (2 * wd) < A.length) :
    Srt K (sg A (c * (2 * wd)) wd) ∧ Srt K (sg A (c * (2 * wd) + wd) wd) ∧ (∀ a ∈ sg A (c * (2 * wd)) wd, ∀ b ∈ sg A (c * (2 * wd) + wd) wd, a < b) ∧
      ∀ o : List Nat, o.Perm (sg A (c * (2 * wd)) wd ++ sg A (c * (2 * wd) + wd) wd) → o.Perm (sg p0 (c * (2 * wd)) (2 * wd)) := by
  have e1 : c * (2 * wd) = (2 * c) * wd := by rw [← Nat.mul_assoc, Nat.mul_comm c 2]
  have e2 : c * (2 * wd) + wd = (2 * c + 1) * wd := by rw [e1, Nat.add_mul, Nat.one_mul]
  have h1 := h (2 * c) (by rw [← e1]; exact hc)
  rw [← e1] at h1
  have h2 : Srt K (sg A (c * (2 * wd) + wd) wd) ∧ (sg A (c * (2 * wd) + wd) wd).Perm (sg p0 (c * (2 * wd) + wd) wd) := by
    rcases Nat.lt_or_ge (c * (2 * wd) + wd) A.length with hlt | hge
    · have := h (2 * c + 1) (by rw [← e2]; exact hlt)
      rw [← e2] at this
      exact this
    · have z1 : sg A (c * (2 * wd) + wd) wd = [] := by unfold sg; rw [List.drop_of_length_le hge, List.take_nil]
      have z2 : sg p0 (c * (2 * wd) + wd) wd = [] := by unfold sg; rw [List.drop_of_length_le (by omega), List.take_nil]
      rw [z1, z2]
      exact ⟨List.Pairwise.nil, List.Perm.refl _⟩
  refine ⟨h1.1, h2.1, ?_, ?_⟩
  · intro a ha b hb
    have ha' := h1.2.subset ha
    have hb' := h2.2.subset hb
    have hs : p0.drop (c * (2 * wd)) = sg p0 (c * (2 * wd)) wd ++ p0.drop (c * (2 * wd) + wd) := sg_split _ _ _
    have hd : (p0.drop (c * (2 * wd))).Pairwise (· < ·) := hinc.drop
    rw [hs, List.pairwise_append] at hd
    exact hd.2.2 a ha' b (List.take_subset _ _ hb')
  · intro o ho
    refine ho.trans ?_
    rw [show 2 * wd = wd + wd by omega, sg_add]
    rw [show wd + wd = 2 * wd by omega]
    exact List.Perm.append h1.2 h2.2
end
end Go.Proofs.Qxb6500664a.Ord
