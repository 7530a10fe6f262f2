/-
  EveryPosition: what its walk needs.
-/
import Derived.Test.Qxb6500653aArr
import Derived.Test.Qxb6500653aArea
import Derived.Test.Qxb6500653aHitV
import Derived.Test.Qxb6500653aRchPre
namespace Go.Proofs.Qxb6500653a
open Go.RowKit

/-- a row of rectangles in memory -/
structure RcsAt (w : World) (g : Nat) (L : List Rc) : Prop where
  at_ : ∀ j R, L[j]? = some R → w.cell? ⟨g, j * 4, none⟩ = some (.int .i64 R.y0) ∧ w.cell? ⟨g, j * 4 + 1, none⟩ = some (.int .i64 R.x0) ∧ w.cell? ⟨g, j * 4 + 2, none⟩ = some (.int .i64 R.y1) ∧ w.cell? ⟨g, j * 4 + 3, none⟩ = some (.int .i64 R.x1)
theorem rects_in {w : World} {base : Nat} {v : Value} {L : List Rc} (h : w.ownsRow base 50 4 v L.length (flatR L)) : ∃ pp cp, v = .slice pp L.length cp ∧ (0 < L.length → ∃ g, pp = some ⟨g, 0, none⟩ ∧ base ≤ g ∧ RcsAt w g L) := by
  rcases h.2 with ⟨e, hn⟩ | ⟨g, cap, cur, e, hb, _⟩
  · exact ⟨none, 0, by rw [e, hn], fun hp => by omega⟩
  · refine ⟨some ⟨g, 0, none⟩, cap, e, fun _ => ⟨g, rfl, hb, ⟨fun j R hj => ?_⟩⟩⟩
    have hr := h
    rw [e] at hr
    have hl : j < L.length := (List.getElem?_eq_some_iff.1 hj).1
    have c : ∀ i, i < 4 → w.cell? ⟨g, j * 4 + i, none⟩ = R.cells[i]? := fun i hi => (hr.cellAt (j * 4 + i) (by omega)).trans (flatR_at L j R hj i hi)
    exact ⟨(c 0 (by omega)).trans rfl, (c 1 (by omega)).trans rfl, (c 2 (by omega)).trans rfl, (c 3 (by omega)).trans rfl⟩
/-- a row of panes in memory -/
structure PnsAt (w : World) (g : Nat) (L : List Pn) : Prop where
  at_ : ∀ j R, L[j]? = some R → w.cell? ⟨g, j * 8, none⟩ = some (.int .i64 R.y0) ∧ w.cell? ⟨g, j * 8 + 1, none⟩ = some (.int .i64 R.x0) ∧ w.cell? ⟨g, j * 8 + 2, none⟩ = some (.int .i64 R.y1) ∧ w.cell? ⟨g, j * 8 + 3, none⟩ = some (.int .i64 R.x1) ∧
    w.cell? ⟨g, j * 8 + 4, none⟩ = some (.int .i64 R.t) ∧ w.cell? ⟨g, j * 8 + 5, none⟩ = some (.int .i64 R.l) ∧ w.cell? ⟨g, j * 8 + 6, none⟩ = some (.int .i64 R.b) ∧ w.cell? ⟨g, j * 8 + 7, none⟩ = some (.int .i64 R.r)
theorem panes_in {w : World} {base : Nat} {v : Value} {L : List Pn} (h : w.ownsRow base 58 8 v L.length (flatP L)) : ∃ pp cp, v = .slice pp L.length cp ∧ (0 < L.length → ∃ g, pp = some ⟨g, 0, none⟩ ∧ base ≤ g ∧ PnsAt w g L) := by
  rcases h.2 with ⟨e, hn⟩ | ⟨g, cap, cur, e, hb, _⟩
  · exact ⟨none, 0, by rw [e, hn], fun hp => by omega⟩
  · refine ⟨some ⟨g, 0, none⟩, cap, e, fun _ => ⟨g, rfl, hb, ⟨fun j R hj => ?_⟩⟩⟩
    have hr := h
    rw [e] at hr
    have hl : j < L.length := (List.getElem?_eq_some_iff.1 hj).1
    have c : ∀ i, i < 8 → w.cell? ⟨g, j * 8 + i, none⟩ = R.cells[i]? := fun i hi => (hr.cellAt (j * 8 + i) (by omega)).trans (flatP_at L j R hj i hi)
    exact ⟨(c 0 (by omega)).trans rfl, (c 1 (by omega)).trans rfl, (c 2 (by omega)).trans rfl, (c 3 (by omega)).trans rfl, (c 4 (by omega)).trans rfl, (c 5 (by omega)).trans rfl, (c 6 (by omega)).trans rfl, (c 7 (by omega)).trans rfl⟩

/-- 'f, v := p.l.Frame(), p.l.View()' -/
structure VarFv (w : World) (lb sb : Nat) (S : Sh) (V : Vw) (fb vb : Nat) (wx : World) : Prop where
  kp : Kp (one lb) w wx
  lay : LayAt wx lb sb S V
  cached : Cached wx lb S V
  frame : FrameAt wx fb (frameOf S V)
  fnew : w.heap.size ≤ fb
  vnew : w.heap.size ≤ vb
  c0 : wx.cell? ⟨vb, 0, none⟩ = some (.int .i64 (V.fr : Int))
  c1 : wx.cell? ⟨vb, 1, none⟩ = some (.int .i64 (V.fc : Int))
  c2 : wx.cell? ⟨vb, 2, none⟩ = some (.int .i64 (V.sr : Int))
  c3 : wx.cell? ⟨vb, 3, none⟩ = some (.int .i64 (V.sc : Int))
section
variable {w w6 w7 : World} {lb sb fb : Nat} {S : Sh} {V : Vw} {t : TypeId} {z0 z1 z2 z3 : Value}
/-- the variable behind both calls -/
theorem VarFv.c (k6 : Kp (one lb) w.drew w6) (hL : LayAt w6 lb sb S V) (hF : FrameAt w6 fb (frameOf S V)) (hn : w.drew.heap.size ≤ fb) (hC : Cached w6 lb S V) (k7 : Kp no w6 w7) :
    VarFv w lb sb S V fb w7.heap.size (w7.alloc (.cells #[.int .i64 (V.fr : Int), .int .i64 (V.fc : Int), .int .i64 (V.sr : Int), .int .i64 (V.sc : Int)] t)) := by
  have k : Kp no w6 (w7.alloc (.cells #[.int .i64 (V.fr : Int), .int .i64 (V.fc : Int), .int .i64 (V.sr : Int), .int .i64 (V.sc : Int)] t)) := k7.alloc _
  have h1 := k6.drew_left.size
  have h2 := k7.size
  exact ⟨k6.drew_left.trans (Kp.of_no k), hL.on k, hC.on k, hF.kp k id, hn, by omega, by simp, by simp, by simp, by simp⟩
/-- between them -/
theorem VarFv.b (k6 : Kp (one lb) w.drew w6) (_hl : lb < w.heap.size) (hL : LayAt w6 lb sb S V) (hF : FrameAt w6 fb (frameOf S V)) (hn : w.drew.heap.size ≤ fb) (hC : Cached w6 lb S V) (k7 : Kp no (w6.alloc (.cells #[z0, z1, z2, z3] t)) w7) :
    VarFv w lb sb S V fb w6.heap.size (put4 w7 w6.heap.size (.int .i64 (V.fr : Int)) (.int .i64 (V.fc : Int)) (.int .i64 (V.sr : Int)) (.int .i64 (V.sc : Int))) := by
  have k0 : Kp no w6 w7 := ((Kp.refl no w6).alloc _).trans k7
  have hz : w6.heap.size < (w6.alloc (.cells #[z0, z1, z2, z3] t)).heap.size := by simp
  have m : ∀ j, j < 4 → ∃ u, w7.cell? ⟨w6.heap.size, j, none⟩ = some u := fun j hj => by
    rcases (show j = 0 ∨ j = 1 ∨ j = 2 ∨ j = 3 by omega) with rfl | rfl | rfl | rfl
    · exact ⟨z0, k7.cell (by simp) id⟩
    · exact ⟨z1, k7.cell (by simp) id⟩
    · exact ⟨z2, k7.cell (by simp) id⟩
    · exact ⟨z3, k7.cell (by simp) id⟩
  obtain ⟨u0, m0⟩ := m 0 (by omega)
  obtain ⟨u1, m1⟩ := m 1 (by omega)
  obtain ⟨u2, m2⟩ := m 2 (by omega)
  obtain ⟨u3, m3⟩ := m 3 (by omega)
  obtain ⟨q0, q1, q2, q3⟩ := put4_at m0 m1 m2 m3 (.int .i64 (V.fr : Int)) (.int .i64 (V.fc : Int)) (.int .i64 (V.sr : Int)) (.int .i64 (V.sc : Int))
  have k : Kp no w6 (put4 w7 w6.heap.size (.int .i64 (V.fr : Int)) (.int .i64 (V.fc : Int)) (.int .i64 (V.sr : Int)) (.int .i64 (V.sc : Int))) := k0.put4 (fun h => absurd h (Nat.lt_irrefl _)) _ _ _ _
  have h1 := k6.drew_left.size
  exact ⟨k6.drew_left.trans (Kp.of_no k), hL.on k, hC.on k, hF.kp k id, hn, h1, q0, q1, q2, q3⟩
/-- before them -/
theorem VarFv.a (k6 : Kp (one lb) (w.alloc (.cells #[z0, z1, z2, z3] t)).drew w6) (hl : lb < w.heap.size) (hL : LayAt w6 lb sb S V) (hF : FrameAt w6 fb (frameOf S V)) (hn : (w.alloc (.cells #[z0, z1, z2, z3] t)).drew.heap.size ≤ fb) (hC : Cached w6 lb S V) (k7 : Kp no w6 w7) :
    VarFv w lb sb S V fb w.heap.size (put4 w7 w.heap.size (.int .i64 (V.fr : Int)) (.int .i64 (V.fc : Int)) (.int .i64 (V.sr : Int)) (.int .i64 (V.sc : Int))) := by
  obtain ⟨m0, m1, m2, m3, _⟩ := alloc4o k6 hl
  obtain ⟨q0, q1, q2, q3⟩ := put4_at (k7.cell m0 id) (k7.cell m1 id) (k7.cell m2 id) (k7.cell m3 id) (.int .i64 (V.fr : Int)) (.int .i64 (V.fc : Int)) (.int .i64 (V.sr : Int)) (.int .i64 (V.sc : Int))
  have hz : (w.alloc (.cells #[z0, z1, z2, z3] t)).drew.heap.size = w.heap.size + 1 := by show (w.alloc (.cells #[z0, z1, z2, z3] t)).heap.size = _; simp
  have k0 : Kp (one lb) w w7 := (((Kp.refl _ _).alloc _).trans k6.drew_left).trans (Kp.of_no k7)
  have kb : Kp (one w.heap.size) w7 (put4 w7 w.heap.size (.int .i64 (V.fr : Int)) (.int .i64 (V.fc : Int)) (.int .i64 (V.sr : Int)) (.int .i64 (V.sc : Int))) := (Kp.refl (one w.heap.size) w7).put4 (fun _ => rfl) _ _ _ _
  have hne : w.heap.size ≠ lb := by omega
  have h10 : w7.cell? ⟨w.heap.size, 10, none⟩ = none := k7.nocell (by have := k6.size; omega) id (k6.nocell (by rw [hz]; omega) hne (by show (w.alloc _).cell? _ = _; simp))
  obtain ⟨rb, cb, d1, d2, d3, d4⟩ := hC.on k7
  have hC' : Cached (put4 w7 w.heap.size (.int .i64 (V.fr : Int)) (.int .i64 (V.fc : Int)) (.int .i64 (V.sr : Int)) (.int .i64 (V.sc : Int))) lb S V :=
    ⟨rb, cb, kb.cell d1 (fun e => hne (Eq.symm e)), kb.cell d2 (fun e => hne (Eq.symm e)), kb.cell d3 (fun e => hne (Eq.symm e)), d4.tiny kb (fun b hb => by cases hb; exact h10)⟩
  refine ⟨k0.put4 (fun h => absurd h (Nat.lt_irrefl _)) _ _ _ _, (hL.on k7).put4 hne h10 _ _ _ _, hC', (hF.kp k7 id).kp kb (fun e => ?_), by omega, Nat.le_refl _, q0, q1, q2, q3⟩
  have e' : fb = w.heap.size := e
  omega
end
end Go.Proofs.Qxb6500653a
