/-
  ReachCoversTheText: the positions of one drawing are unbroken, if what was drawn before covers a head of its stretch.
-/
import Derived.Test.Qxb6500653aFrom
namespace Go.Proofs.Qxb6500653a
open Go.RowKit

theorem Dr.has_mid {d : Dr} {x1 x2 x3 : Nat} (h12 : x1 ≤ x2) (h23 : x2 ≤ x3) (h1 : d.has x1 = true) (h3 : d.has x3 = true) : d.has x2 = true := by
  have a := of_decide_eq_true h1
  have b := of_decide_eq_true h3
  exact decide_eq_true ⟨by omega, by omega⟩
/-- e covers a head of d's stretch, or none of it -/
def Dr.heads (e d : Dr) : Prop := ∀ x x' : Nat, x' ≤ x → e.has x = true → d.has x = true → d.has x' = true → e.has x' = true
theorem Dr.heads_of {e d : Dr} (h : max e.s e.lo ≤ max d.s d.lo ∨ min (e.s + e.t.size) e.hi ≤ max d.s d.lo) : e.heads d := by
  intro x x' hx h1 h2 h3
  have a := of_decide_eq_true h1
  have b := of_decide_eq_true h2
  have c := of_decide_eq_true h3
  refine decide_eq_true ⟨?_, ?_⟩
  · rcases h with h | h <;> omega
  · omega
theorem Dr.heads_after {e d : Dr} (h : min (d.s + d.t.size) d.hi ≤ max e.s e.lo) : e.heads d := by
  intro x x' _ h1 h2 _
  have a := of_decide_eq_true h1
  have b := of_decide_eq_true h2
  omega
theorem find_first {ds : List Dr} {d : Dr} {x : Nat} : ds.find? (fun d => d.has x) = some d ↔ d.has x = true ∧ ∃ pre suf, ds = pre ++ d :: suf ∧ ∀ e ∈ pre, e.has x = false := by
  rw [List.find?_eq_some_iff_append]
  constructor
  · rintro ⟨h1, pre, suf, h2, h3⟩
    exact ⟨h1, pre, suf, h2, fun e he => by simpa using h3 e he⟩
  · rintro ⟨h1, pre, suf, h2, h3⟩
    exact ⟨h1, pre, suf, h2, fun e he => by simpa using h3 e he⟩
/-- unbroken -/
theorem first_convex {ds : List Dr} {d : Dr} (hh : ∀ pre suf, ds = pre ++ d :: suf → ∀ e ∈ pre, e.heads d) {x1 x2 x3 : Nat} (h12 : x1 ≤ x2) (h23 : x2 ≤ x3) (f1 : ds.find? (fun d => d.has x1) = some d) (f3 : ds.find? (fun d => d.has x3) = some d) : ds.find? (fun d => d.has x2) = some d := by
  obtain ⟨p1, pre, suf, h2, h3⟩ := find_first.1 f1
  obtain ⟨p3, _⟩ := find_first.1 f3
  have p2 := Dr.has_mid h12 h23 p1 p3
  refine find_first.2 ⟨p2, pre, suf, h2, fun e he => ?_⟩
  cases h : e.has x2 with
  | false => rfl
  | true =>
    have := hh pre suf h2 e he x2 x1 h12 h p2 p1
    rw [h3 e he] at this
    cases this
end Go.Proofs.Qxb6500653a
