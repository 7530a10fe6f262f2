/-
  'a, before := .., p.l.View()': two variables, laid before or behind the call.
-/
import Derived.Test.Qxb6500653aPlayB
namespace Go.Proofs.Qxb6500653a
open Go.RowKit

theorem Kp.left_drew {X : Nat → Prop} {a b : World} (h : Kp X a b) : Kp X a.drew b := ⟨h.os, h.tape, h.output, h.size, h.block⟩
/-- a block of two cells laid before a call, behind it -/
theorem alloc2d {w w' : World} {x0 x1 : Value} {t : TypeId} (k : Kp no (w.alloc (.cells #[x0, x1] t)).drew w') :
    w'.cell? ⟨w.heap.size, 0, none⟩ = some x0 ∧ w'.cell? ⟨w.heap.size, 1, none⟩ = some x1 ∧ w'.frozen? ⟨w.heap.size, 0, none⟩ = false ∧ w'.frozen? ⟨w.heap.size, 1, none⟩ = false := by
  have hl : w.heap.size < (w.alloc (.cells #[x0, x1] t)).drew.heap.size := by simp
  have hf : ∀ o, w'.frozen? ⟨w.heap.size, o, none⟩ = false := fun o => by rw [k.frozen (p := ⟨w.heap.size, o, none⟩) hl id]; show (w.alloc _).frozen? _ = _; simp
  exact ⟨k.cell (by show (w.alloc _).cell? _ = _; simp) id, k.cell (by show (w.alloc _).cell? _ = _; simp) id, hf _, hf _⟩
theorem alloc24d {w w' : World} {x0 x1 y0 y1 y2 y3 : Value} {t t' : TypeId} (k : Kp no ((w.alloc (.cells #[x0, x1] t)).alloc (.cells #[y0, y1, y2, y3] t')).drew w') :
    (w'.cell? ⟨w.heap.size, 0, none⟩ = some x0 ∧ w'.cell? ⟨w.heap.size, 1, none⟩ = some x1 ∧ w'.frozen? ⟨w.heap.size, 0, none⟩ = false ∧ w'.frozen? ⟨w.heap.size, 1, none⟩ = false) ∧
    w'.cell? ⟨w.heap.size + 1, 0, none⟩ = some y0 ∧ w'.cell? ⟨w.heap.size + 1, 1, none⟩ = some y1 ∧ w'.cell? ⟨w.heap.size + 1, 2, none⟩ = some y2 ∧ w'.cell? ⟨w.heap.size + 1, 3, none⟩ = some y3 ∧
      w'.frozen? ⟨w.heap.size + 1, 0, none⟩ = false ∧ w'.frozen? ⟨w.heap.size + 1, 1, none⟩ = false ∧ w'.frozen? ⟨w.heap.size + 1, 2, none⟩ = false ∧ w'.frozen? ⟨w.heap.size + 1, 3, none⟩ = false := by
  have h2 := alloc4d k
  rw [World.size_alloc] at h2
  exact ⟨alloc2d (w := w) (x0 := x0) (x1 := x1) (t := t) (Kp.left_drew (((Kp.refl no _).alloc _).drew.trans k)), h2⟩
theorem alloc42d {w w' : World} {x0 x1 y0 y1 y2 y3 : Value} {t t' : TypeId} (k : Kp no ((w.alloc (.cells #[y0, y1, y2, y3] t')).alloc (.cells #[x0, x1] t)).drew w') :
    (w'.cell? ⟨w.heap.size + 1, 0, none⟩ = some x0 ∧ w'.cell? ⟨w.heap.size + 1, 1, none⟩ = some x1 ∧ w'.frozen? ⟨w.heap.size + 1, 0, none⟩ = false ∧ w'.frozen? ⟨w.heap.size + 1, 1, none⟩ = false) ∧
    w'.cell? ⟨w.heap.size, 0, none⟩ = some y0 ∧ w'.cell? ⟨w.heap.size, 1, none⟩ = some y1 ∧ w'.cell? ⟨w.heap.size, 2, none⟩ = some y2 ∧ w'.cell? ⟨w.heap.size, 3, none⟩ = some y3 ∧
      w'.frozen? ⟨w.heap.size, 0, none⟩ = false ∧ w'.frozen? ⟨w.heap.size, 1, none⟩ = false ∧ w'.frozen? ⟨w.heap.size, 2, none⟩ = false ∧ w'.frozen? ⟨w.heap.size, 3, none⟩ = false := by
  have h2 := alloc2d k
  rw [World.size_alloc] at h2
  exact ⟨h2, alloc4d (w := w) (x0 := y0) (x1 := y1) (x2 := y2) (x3 := y3) (t := t') (Kp.left_drew (((Kp.refl no _).alloc _).drew.trans k))⟩

/-- the two variables -/
structure Two (w w' : World) (b6 b7 : Nat) (x0 x1 y0 y1 y2 y3 : Value) : Prop where
  kp : Kp no w w'
  n6 : w.heap.size ≤ b6
  n7 : w.heap.size ≤ b7
  c0 : w'.cell? ⟨b6, 0, none⟩ = some x0
  c1 : w'.cell? ⟨b6, 1, none⟩ = some x1
  d0 : w'.cell? ⟨b7, 0, none⟩ = some y0
  d1 : w'.cell? ⟨b7, 1, none⟩ = some y1
  d2 : w'.cell? ⟨b7, 2, none⟩ = some y2
  d3 : w'.cell? ⟨b7, 3, none⟩ = some y3
theorem size_lt {w w6 : World} {o : Obj} (k : Kp no (w.alloc o).drew w6) : w.heap.size < w6.heap.size := by
  have := k.size
  have e : (w.alloc o).drew.heap.size = w.heap.size + 1 := by show (w.alloc o).heap.size = _; simp
  omega
section
variable {w w6 : World} {x0 x1 y0 y1 y2 y3 : Value} {t t' : TypeId}
theorem Two.t1 (k : Kp no w.drew w6) : Two w ((w6.alloc (.cells #[x0, x1] t)).alloc (.cells #[y0, y1, y2, y3] t')) w6.heap.size (w6.heap.size + 1) x0 x1 y0 y1 y2 y3 := by
  have hs := k.drew_left.size
  exact ⟨(k.drew_left.alloc _).alloc _, hs, by omega, by simp, by simp, by simp, by simp, by simp, by simp⟩
theorem Two.t2 (k : Kp no w.drew w6) : Two w ((w6.alloc (.cells #[y0, y1, y2, y3] t')).alloc (.cells #[x0, x1] t)) (w6.heap.size + 1) w6.heap.size x0 x1 y0 y1 y2 y3 := by
  have hs := k.drew_left.size
  exact ⟨(k.drew_left.alloc _).alloc _, by omega, hs, by simp, by simp, by simp, by simp, by simp, by simp⟩
theorem Two.t3 {z0 z1 : Value} (k : Kp no (w.alloc (.cells #[z0, z1] t)).drew w6) : Two w (((w6.setCell ⟨w.heap.size, 0, none⟩ x0).setCell ⟨w.heap.size, 1, none⟩ x1).alloc (.cells #[y0, y1, y2, y3] t')) w.heap.size w6.heap.size x0 x1 y0 y1 y2 y3 := by
  obtain ⟨m0, m1, _⟩ := alloc2d k
  have hl := size_lt k
  have k0 : Kp no w w6 := ((Kp.refl _ _).alloc _).trans k.drew_left
  have k1 : Kp no w (put2 w6 w.heap.size x0 x1) := k0.put2 (b := w.heap.size) (fun h => absurd h (Nat.lt_irrefl _)) _ _
  obtain ⟨q0, q1⟩ := put2_at m0 m1 x0 x1
  have ka := (Kp.refl no (put2 w6 w.heap.size x0 x1)).alloc (.cells #[y0, y1, y2, y3] t')
  have es : (put2 w6 w.heap.size x0 x1).heap.size = w6.heap.size := by unfold put2; rw [World.size_setCell, World.size_setCell]
  refine ⟨k1.alloc _, Nat.le_refl _, by omega, ka.cell q0 id, ka.cell q1 id, ?_, ?_, ?_, ?_⟩ <;> (rw [← es]; show ((put2 w6 w.heap.size x0 x1).alloc _).cell? _ = _; simp)
theorem Two.t4 {z0 z1 u0 u1 u2 u3 : Value} (k : Kp no ((w.alloc (.cells #[z0, z1] t)).alloc (.cells #[u0, u1, u2, u3] t')).drew w6) :
    Two w ((((((w6.setCell ⟨w.heap.size, 0, none⟩ x0).setCell ⟨w.heap.size, 1, none⟩ x1).setCell ⟨w.heap.size + 1, 0, none⟩ y0).setCell ⟨w.heap.size + 1, 1, none⟩ y1).setCell ⟨w.heap.size + 1, 2, none⟩ y2).setCell ⟨w.heap.size + 1, 3, none⟩ y3) w.heap.size (w.heap.size + 1) x0 x1 y0 y1 y2 y3 := by
  obtain ⟨⟨m0, m1, _, _⟩, n0, n1, n2, n3, _⟩ := alloc24d k
  have k0 : Kp no w w6 := (((Kp.refl _ _).alloc _).alloc _).trans k.drew_left
  have hne : w.heap.size ≠ w.heap.size + 1 := by omega
  obtain ⟨q0, q1⟩ := put2_at m0 m1 x0 x1
  have kA : Kp (one w.heap.size) w6 (put2 w6 w.heap.size x0 x1) := Kp.put2 (Kp.refl (one _) _) (b := _) (fun _ => rfl) _ _
  have nn : ¬ one w.heap.size (w.heap.size + 1) := fun e => hne (Eq.symm e)
  obtain ⟨r0, r1, r2, r3⟩ := put4_at (kA.cell n0 nn) (kA.cell n1 nn) (kA.cell n2 nn) (kA.cell n3 nn) y0 y1 y2 y3
  have kB : Kp (one (w.heap.size + 1)) (put2 w6 w.heap.size x0 x1) (put4 (put2 w6 w.heap.size x0 x1) (w.heap.size + 1) y0 y1 y2 y3) := Kp.put4 (Kp.refl (one _) _) (b := _) (fun _ => rfl) _ _ _ _
  have kC : Kp no w (put4 (put2 w6 w.heap.size x0 x1) (w.heap.size + 1) y0 y1 y2 y3) := (k0.put2 (b := w.heap.size) (fun h => absurd h (Nat.lt_irrefl _)) _ _).put4 (b := w.heap.size + 1) (fun h => absurd h (by omega)) _ _ _ _
  exact ⟨kC, Nat.le_refl _, by omega, kB.cell q0 hne, kB.cell q1 hne, r0, r1, r2, r3⟩
theorem Two.t5 {u0 u1 u2 u3 : Value} (k : Kp no (w.alloc (.cells #[u0, u1, u2, u3] t')).drew w6) : Two w (((((w6.setCell ⟨w.heap.size, 0, none⟩ y0).setCell ⟨w.heap.size, 1, none⟩ y1).setCell ⟨w.heap.size, 2, none⟩ y2).setCell ⟨w.heap.size, 3, none⟩ y3).alloc (.cells #[x0, x1] t)) w6.heap.size w.heap.size x0 x1 y0 y1 y2 y3 := by
  obtain ⟨n0, n1, n2, n3, _⟩ := alloc4d k
  have hl := size_lt k
  have k0 : Kp no w w6 := ((Kp.refl _ _).alloc _).trans k.drew_left
  obtain ⟨r0, r1, r2, r3⟩ := put4_at n0 n1 n2 n3 y0 y1 y2 y3
  have k1 : Kp no w (put4 w6 w.heap.size y0 y1 y2 y3) := k0.put4 (b := w.heap.size) (fun h => absurd h (Nat.lt_irrefl _)) _ _ _ _
  have ka := (Kp.refl no (put4 w6 w.heap.size y0 y1 y2 y3)).alloc (.cells #[x0, x1] t)
  have es : (put4 w6 w.heap.size y0 y1 y2 y3).heap.size = w6.heap.size := by unfold put4; rw [World.size_setCell, World.size_setCell, World.size_setCell, World.size_setCell]
  refine ⟨k1.alloc _, by omega, Nat.le_refl _, ?_, ?_, ka.cell r0 id, ka.cell r1 id, ka.cell r2 id, ka.cell r3 id⟩
  · rw [← es]; show ((put4 w6 w.heap.size y0 y1 y2 y3).alloc _).cell? _ = _; simp
  · rw [← es]; show ((put4 w6 w.heap.size y0 y1 y2 y3).alloc _).cell? _ = _; simp
theorem Two.t6 {z0 z1 u0 u1 u2 u3 : Value} (k : Kp no ((w.alloc (.cells #[u0, u1, u2, u3] t')).alloc (.cells #[z0, z1] t)).drew w6) :
    Two w ((((((w6.setCell ⟨w.heap.size + 1, 0, none⟩ x0).setCell ⟨w.heap.size + 1, 1, none⟩ x1).setCell ⟨w.heap.size, 0, none⟩ y0).setCell ⟨w.heap.size, 1, none⟩ y1).setCell ⟨w.heap.size, 2, none⟩ y2).setCell ⟨w.heap.size, 3, none⟩ y3) (w.heap.size + 1) w.heap.size x0 x1 y0 y1 y2 y3 := by
  obtain ⟨⟨m0, m1, _, _⟩, n0, n1, n2, n3, _⟩ := alloc42d k
  have k0 : Kp no w w6 := (((Kp.refl _ _).alloc _).alloc _).trans k.drew_left
  have hne : w.heap.size + 1 ≠ w.heap.size := by omega
  obtain ⟨q0, q1⟩ := put2_at m0 m1 x0 x1
  have kA : Kp (one (w.heap.size + 1)) w6 (put2 w6 (w.heap.size + 1) x0 x1) := Kp.put2 (Kp.refl (one _) _) (b := _) (fun _ => rfl) _ _
  have nn : ¬ one (w.heap.size + 1) w.heap.size := fun e => hne (Eq.symm e)
  obtain ⟨r0, r1, r2, r3⟩ := put4_at (kA.cell n0 nn) (kA.cell n1 nn) (kA.cell n2 nn) (kA.cell n3 nn) y0 y1 y2 y3
  have kB : Kp (one w.heap.size) (put2 w6 (w.heap.size + 1) x0 x1) (put4 (put2 w6 (w.heap.size + 1) x0 x1) w.heap.size y0 y1 y2 y3) := Kp.put4 (Kp.refl (one _) _) (b := _) (fun _ => rfl) _ _ _ _
  have kC : Kp no w (put4 (put2 w6 (w.heap.size + 1) x0 x1) w.heap.size y0 y1 y2 y3) := (k0.put2 (b := w.heap.size + 1) (fun h => absurd h (by omega)) _ _).put4 (b := w.heap.size) (fun h => absurd h (Nat.lt_irrefl _)) _ _ _ _
  exact ⟨kC, by omega, Nat.le_refl _, kB.cell q0 hne, kB.cell q1 hne, r0, r1, r2, r3⟩
end
end Go.Proofs.Qxb6500653a
