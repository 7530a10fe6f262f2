/-
  'after, rects := p.l.View(), p.l.Rects(a)': the variable laid before, between or behind the calls.
-/
import Derived.Test.Qxb6500653aRevPre
import Derived.Test.Qxb6500653aHit
namespace Go.Proofs.Qxb6500653a
open Go.RowKit

/-- a block of four noughts of the call's own -/
structure Z4 (w : World) (b : Nat) : Prop where
  c0 : w.cell? ⟨b, 0, none⟩ = some (.int .i64 0)
  c1 : w.cell? ⟨b, 1, none⟩ = some (.int .i64 0)
  c2 : w.cell? ⟨b, 2, none⟩ = some (.int .i64 0)
  c3 : w.cell? ⟨b, 3, none⟩ = some (.int .i64 0)
  c10 : w.cell? ⟨b, 10, none⟩ = none
  free : ∀ i, w.frozen? ⟨b, i, none⟩ = false
theorem Z4.lt {w : World} {b : Nat} (h : Z4 w b) : b < w.heap.size := cell_lt h.c0
theorem Z4.made (w : World) (t : TypeId) : Z4 (w.alloc (.cells #[.int .i64 0, .int .i64 0, .int .i64 0, .int .i64 0] t)) w.heap.size := ⟨by simp, by simp, by simp, by simp, by simp, fun i => by simp⟩
theorem Z4.drew {w : World} {b : Nat} (h : Z4 w b) : Z4 w.drew b := ⟨h.c0, h.c1, h.c2, h.c3, h.c10, h.free⟩
theorem Z4.kp {X : Nat → Prop} {w w' : World} {b : Nat} (h : Z4 w b) (k : Kp X w w') (hx : ¬ X b) : Z4 w' b :=
  ⟨k.cell h.c0 hx, k.cell h.c1 hx, k.cell h.c2 hx, k.cell h.c3 hx, k.nocell h.lt hx h.c10, fun i => (k.frozen (p := ⟨b, i, none⟩) h.lt hx).trans (h.free i)⟩

/-- the player, and what has been kept since wk -/
structure Gm (wk w : World) (qb sb lb : Nat) (S : Sh) (V : Vw) : Prop where
  g : GameAt w qb sb lb S V
  kp : Kp (one lb) wk w
theorem Gm.on {wk w w' : World} {qb sb lb : Nat} {S : Sh} {V : Vw} (h : Gm wk w qb sb lb S V) (k : Kp no w w') : Gm wk w' qb sb lb S V := ⟨h.g.on k, h.kp.trans (Kp.of_no k)⟩
theorem Gm.drew {wk w : World} {qb sb lb : Nat} {S : Sh} {V : Vw} (h : Gm wk w qb sb lb S V) : Gm wk w.drew qb sb lb S V := h.on (Kp.refl no w).drew
theorem Gm.alloc {wk w : World} {qb sb lb : Nat} {S : Sh} {V : Vw} (h : Gm wk w qb sb lb S V) (o : Obj) : Gm wk (w.alloc o) qb sb lb S V := h.on ((Kp.refl no w).alloc o)
/-- one rectangle at g -/
structure R4 (w : World) (g : Nat) (R : Rc) : Prop where
  c0 : w.cell? ⟨g, 0, none⟩ = some (.int .i64 R.y0)
  c1 : w.cell? ⟨g, 1, none⟩ = some (.int .i64 R.x0)
  c2 : w.cell? ⟨g, 2, none⟩ = some (.int .i64 R.y1)
  c3 : w.cell? ⟨g, 3, none⟩ = some (.int .i64 R.x1)
theorem R4.kp {X : Nat → Prop} {w w' : World} {g : Nat} {R : Rc} (h : R4 w g R) (k : Kp X w w') (hx : ¬ X g) : R4 w' g R := ⟨k.cell h.c0 hx, k.cell h.c1 hx, k.cell h.c2 hx, k.cell h.c3 hx⟩

/-- behind both -/
structure Aft (wk wx : World) (qb sb lb : Nat) (S : Sh) (V : Vw) (b16 g : Nat) (R : Rc) : Prop where
  gm : Gm wk wx qb sb lb S V
  rc : R4 wx g R
  c0 : wx.cell? ⟨b16, 0, none⟩ = some (.int .i64 (V.fr : Int))
  c1 : wx.cell? ⟨b16, 1, none⟩ = some (.int .i64 (V.fc : Int))
  c2 : wx.cell? ⟨b16, 2, none⟩ = some (.int .i64 (V.sr : Int))
  c3 : wx.cell? ⟨b16, 3, none⟩ = some (.int .i64 (V.sc : Int))
section
variable {wk w : World} {qb sb lb g : Nat} {S : Sh} {V : Vw} {R : Rc}
theorem Aft.last (h : Gm wk w qb sb lb S V) (hr : R4 w g R) (t : TypeId) : Aft wk (w.alloc (.cells #[.int .i64 (V.fr : Int), .int .i64 (V.fc : Int), .int .i64 (V.sr : Int), .int .i64 (V.sc : Int)] t)) qb sb lb S V w.heap.size g R :=
  ⟨h.alloc _, hr.kp ((Kp.refl no w).alloc _) id, by simp, by simp, by simp, by simp⟩
theorem Aft.put {B : Nat} (hs : SheetAt wk sb S) (h : Gm wk w qb sb lb S V) (hr : R4 w g R) (hz : Z4 w B) (hn : wk.heap.size ≤ B) (hg : B ≠ g) :
    Aft wk ((((w.setCell ⟨B, 0, none⟩ (.int .i64 (V.fr : Int))).setCell ⟨B, 1, none⟩ (.int .i64 (V.fc : Int))).setCell ⟨B, 2, none⟩ (.int .i64 (V.sr : Int))).setCell ⟨B, 3, none⟩ (.int .i64 (V.sc : Int))) qb sb lb S V B g R := by
  obtain ⟨q0, q1, q2, q3⟩ := put4_at hz.c0 hz.c1 hz.c2 hz.c3 (.int .i64 (V.fr : Int)) (.int .i64 (V.fc : Int)) (.int .i64 (V.sr : Int)) (.int .i64 (V.sc : Int))
  have k : Kp (one B) w (put4 w B (.int .i64 (V.fr : Int)) (.int .i64 (V.fc : Int)) (.int .i64 (V.sr : Int)) (.int .i64 (V.sc : Int))) := Kp.put4 (Kp.refl (one B) w) (b := B) (fun _ => rfl) _ _ _ _
  have nb : ∀ {b i : Nat} {v : Value}, w.cell? ⟨b, i, none⟩ = some v → (∀ x, v ≠ .int .i64 x) → (i = 0 ∨ i = 1) → b ≠ B := fun {b i v} hv hne hi e => by
    subst e
    rcases hi with rfl | rfl
    · rw [hz.c0] at hv; exact hne 0 (Option.some.inj hv).symm
    · rw [hz.c1] at hv; exact hne 0 (Option.some.inj hv).symm
  have nl : lb ≠ B := nb h.g.lay.src (fun x e => by cases e) (Or.inl rfl)
  have nq : qb ≠ B := nb h.g.q0 (fun x e => by cases e) (Or.inl rfl)
  have ns : sb ≠ B := by have := hs.lt; omega
  have np : S.pb ≠ B := by have := hs.pb_lt; omega
  refine ⟨⟨⟨?_, h.g.ok, ?_, h.g.vok, ?_, k.cell h.g.q0 nq, k.cell h.g.q1 nq⟩, ?_⟩, hr.kp k (fun e => hg (Eq.symm e)), q0, q1, q2, q3⟩
  · exact h.g.sh.kp k ns np (fun g' hg' e => by have e' : g' = B := e; have := mv_lt hs hg'; omega)
  · exact h.g.lay.tiny k (fun e => nl e) (fun b hb => by cases hb; exact hz.c10)
  · exact h.g.born.kp k np _ rfl rfl
  · exact h.kp.trans2 k (fun j hj e => by have e' : j = B := e; omega)
end
end Go.Proofs.Qxb6500653a
