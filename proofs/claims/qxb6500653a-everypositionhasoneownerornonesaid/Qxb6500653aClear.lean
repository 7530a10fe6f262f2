/-
  clear(line[x0:x1]).
-/
import Derived.Test.Qxb6500653aSpot
import Derived.Laws.IdiomCopy
namespace Go.Proofs.Qxb6500653a
open Go.RowKit

def zero7 : Array Value := #[.bool false, .int .i64 0, .int .i64 0, .bool false, .int .i64 0, .int .i64 0, .int .u8 0]
def zeros (n : Nat) : List Value := (Builtin.zeroCells zero7 n).toList
theorem zeros_len (n : Nat) : (zeros n).length = n * 7 := by
  unfold zeros
  rw [Array.length_toList, size_zeroCells]; rfl
theorem zeros_at (n x j : Nat) (hx : x < n) (hj : j < 7) : (zeros n)[x * 7 + j]? = zero7[j]? := by
  have h1 : x * 7 + j < n * 7 := by omega
  have h2 : (x * 7 + j) % 7 = j := by omega
  have h3 : zero7.size = 7 := rfl
  have h4 : zero7[j]? = some zero7[j]! := by
    rw [getElem!_pos zero7 j (by rw [h3]; exact hj), Array.getElem?_eq_getElem]
  unfold zeros Builtin.zeroCells
  rw [Array.getElem?_toList, Array.getElem?_map, h3, Array.getElem?_range, if_pos h1, h4]
  simp only [Option.map_some, h2]
theorem zeros_one (n : Nat) : ∀ v ∈ zeros n, v.oneCell' = true := by
  intro v hv
  obtain ⟨i, hi⟩ := List.mem_iff_getElem?.1 hv
  have hl : i < n * 7 := by
    have := (List.getElem?_eq_some_iff.1 hi).1
    rw [zeros_len] at this; exact this
  have h := zeros_at n (i / 7) (i % 7) (by omega) (by omega)
  rw [show i / 7 * 7 + i % 7 = i by omega, hi] at h
  have hc : i % 7 = 0 ∨ i % 7 = 1 ∨ i % 7 = 2 ∨ i % 7 = 3 ∨ i % 7 = 4 ∨ i % 7 = 5 ∨ i % 7 = 6 := by omega
  rcases hc with e | e | e | e | e | e | e <;> (rw [e] at h; injection h with h; rw [h]; rfl)

theorem Kp.setCells {X : Nat → Prop} {a : World} {g : Nat} (hx : X g) : ∀ (vs : List Value) (o : Nat) (w : World), Kp X a w → Kp X a (w.setCells g o vs)
  | [], _, _, h => h
  | v :: r, o, w, h => Kp.setCells hx r (o + 1) (w.setCell ⟨g, o, none⟩ v) (Kp.setCell h (p := ⟨g, o, none⟩) (fun _ => hx) v)

/-- the line with a stretch struck out -/
def struck (L : Nat → Spot) (x0 x1 : Nat) (x : Nat) : Spot := if x0 ≤ x ∧ x < x1 then Spot.zero else L x

theorem clear_line {w : World} {g off : Nat} {L : Nat → Spot} (h : LineAt w g off L) {x0 x1 : Nat} (h1 : x0 < x1) (h2 : x1 ≤ 80) (cap : Nat) :
    (Builtin.clear_ #[118] 0 #[.slice (some ⟨g, off + x0 * 7, none⟩) (x1 - x0) cap]).run Try.prog w = .ok (.tuple #[]) (w.setCells g (off + x0 * 7) (zeros (x1 - x0))) ∧
      LineAt (w.setCells g (off + x0 * 7) (zeros (x1 - x0))) g off (struck L x0 x1) ∧ LinePut g off w (w.setCells g (off + x0 * 7) (zeros (x1 - x0))) := by
  have hsome : ∀ j, j < (zeros (x1 - x0)).length → (w.cell? ⟨g, off + x0 * 7 + j, none⟩).isSome = true := fun j hj => by
    rw [zeros_len] at hj
    have hs := h.at_ (x0 + j / 7) (by omega)
    have hc : j % 7 = 0 ∨ j % 7 = 1 ∨ j % 7 = 2 ∨ j % 7 = 3 ∨ j % 7 = 4 ∨ j % 7 = 5 ∨ j % 7 = 6 := by omega
    have e : off + x0 * 7 + j = off + (x0 + j / 7) * 7 + j % 7 := by omega
    rw [e]
    rcases hc with e | e | e | e | e | e | e <;> rw [e]
    · rw [Nat.add_zero, hs.c0]; rfl
    · rw [hs.c1]; rfl
    · rw [hs.c2]; rfl
    · rw [hs.c3]; rfl
    · rw [hs.c4]; rfl
    · rw [hs.c5]; rfl
    · rw [hs.c6]; rfl
  have hst := run_storeCells_cells (P := Try.prog) g (off + x0 * 7) (zeros (x1 - x0)) 0 w (fun j hj => by rw [Nat.add_zero]; exact hsome j hj) (fun j _ => h.free _) (zeros_one _)
  rw [Nat.add_zero] at hst
  refine ⟨?_, ⟨fun x hx => ?_, fun o => ?_⟩, ?_, fun o ho => ?_⟩
  · obtain ⟨m, hm⟩ : ∃ m, x1 - x0 = m + 1 := ⟨x1 - x0 - 1, by omega⟩
    rw [hm] at hst ⊢
    have hst' : (storeCells ⟨g, off + x0 * 7, none⟩ (Builtin.zeroCells (Value.agg #[.bool false, .int .i64 0, .int .i64 0, .bool false, .int .i64 0, .int .i64 0, .int .u8 0]).cells (m + 1)).toList).run Try.prog w = .ok () (w.setCells g (off + x0 * 7) (zeros (m + 1))) := hst
    simp [Builtin.clear_, Sem.run_bind, run_underlying Try.underlying118, hst', Result.andThen]
  · unfold struck
    by_cases e : x0 ≤ x ∧ x < x1
    · rw [if_pos e]
      have g7 : ∀ j, j < 7 → (w.setCells g (off + x0 * 7) (zeros (x1 - x0))).cell? ⟨g, off + x * 7 + j, none⟩ = zero7[j]? := fun j hj => by
        have hl : (x - x0) * 7 + j < (zeros (x1 - x0)).length := by rw [zeros_len]; omega
        have := World.cell?_setCells_in g (zeros (x1 - x0)) (off + x0 * 7) w hsome ((x - x0) * 7 + j) hl
        rw [show off + x0 * 7 + ((x - x0) * 7 + j) = off + x * 7 + j by omega] at this
        rw [this, ← List.getElem?_eq_getElem hl]
        exact zeros_at _ _ _ (by omega) hj
      exact ⟨g7 0 (by omega), g7 1 (by omega), g7 2 (by omega), g7 3 (by omega), g7 4 (by omega), g7 5 (by omega), g7 6 (by omega)⟩
    · rw [if_neg e]
      exact (h.at_ x hx).same fun j hj => World.cell?_setCells_out g (zeros (x1 - x0)) (off + x0 * 7) w _ (fun _ _ => by rw [zeros_len]; show _ < _ ∨ _ ≤ _; simp only; omega)
  · rw [World.frozen?_setCells]; exact h.free o
  · exact Kp.setCells (X := one g) rfl _ _ _ (Kp.refl _ _)
  · exact World.cell?_setCells_out g (zeros (x1 - x0)) (off + x0 * 7) w _ (fun _ _ => by rw [zeros_len]; show _ < _ ∨ _ ≤ _; simp only; omega)
end Go.Proofs.Qxb6500653a
