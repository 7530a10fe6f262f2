/-
  The two bands of an axis by their number.
-/
import Derived.Test.Qxb6500653aHit
namespace Go.Proofs.Qxb6500653a
open Go.RowKit

/-- a band's stretch of the screen -/
def Ax.bLo (A : Ax) (i : Nat) : Nat := if i = 0 then 0 else A.edge
def Ax.bHi (A : Ax) (i : Nat) : Nat := if i = 0 then A.edge else A.hi
def Ax.bFi (A : Ax) (i : Nat) : Nat := if i = 0 then 0 else A.fz
def Ax.bEn (A : Ax) (i : Nat) : Nat := if i = 0 then A.fz else A.n
theorem band_cells {w : World} {ab : Nat} {A : Ax} (h : AxAt w ab A) {i bo : Nat} (hi : i < 2) (hbo : bo = 2 + i * 4) :
    w.cell? ⟨ab, bo, none⟩ = some (.int .i64 (A.bFi i : Int)) ∧ w.cell? ⟨ab, bo + 1, none⟩ = some (.int .i64 (A.bEn i : Int)) ∧ w.cell? ⟨ab, bo + 2, none⟩ = some (.int .i64 (A.bLo i : Int)) ∧ w.cell? ⟨ab, bo + 3, none⟩ = some (.int .i64 (A.bHi i : Int)) := by
  have hc : i = 0 ∨ i = 1 := by omega
  rcases hc with rfl | rfl
  · subst hbo; exact ⟨h.c2, h.c3, h.c4, h.c5⟩
  · subst hbo; exact ⟨h.c6, h.c7, h.c8, h.c9⟩
/-- a line of the band: its own stretch -/
theorem span_own (w : World) (ab : Nat) (A : Ax) (hA : AxAt w ab A) (hok : A.Ok) (i bo : Nat) (hi : i < 2) (hbo : bo = 2 + i * 4) (c : Nat) (h1 : A.bFi i ≤ c) (h2 : c < A.bEn i) :
    Calls Try.prog 49 #[.pointer (some ⟨ab, 0, none⟩), .int .i64 (c : Int), .int .i64 (c : Int), .pointer (some ⟨ab, bo, none⟩)] w fun e w' => e = .returned (.tuple #[.int .i64 (A.st c), .int .i64 (A.st c + (A.sz c : Int))]) ∧ Kp no w w' := by
  have hf := hok.fz
  have hc : i = 0 ∨ i = 1 := by omega
  rcases hc with rfl | rfl
  · subst hbo
    have h2' : c < A.fz := h2
    have e : A.span0 c c = (A.st c, A.st c + (A.sz c : Int)) := by unfold Ax.span0; rw [if_pos h2', Nat.min_eq_left (by omega)]
    have := span_zero w ab A hA hok c c (Nat.le_refl _) (by omega)
    rw [e] at this
    exact this.mono fun _ _ ⟨he, q, hw⟩ => ⟨he, by rw [hw]; exact (Kp.refl _ _).drewN q⟩
  · subst hbo
    have h1' : A.fz ≤ c := h1
    have h2' : c < A.n := h2
    have e : A.span1 c c = (A.st c, A.st c + (A.sz c : Int)) := by unfold Ax.span1; rw [if_pos h1', Nat.max_eq_left h1']
    have := span_one w ab A hA hok c c (Nat.le_refl _) h2'
    rw [e] at this
    exact this.mono fun _ _ ⟨he, q, hw⟩ => ⟨he, by rw [hw]; exact (Kp.refl _ _).drewN q⟩
theorem band_in {A : Ax} (hok : A.Ok) {i : Nat} : A.bEn i ≤ A.n ∧ A.bHi i ≤ A.m := by
  have := hok.fz
  have := hok.edge
  have := hok.hi
  unfold Ax.bEn Ax.bHi
  split <;> omega
end Go.Proofs.Qxb6500653a
