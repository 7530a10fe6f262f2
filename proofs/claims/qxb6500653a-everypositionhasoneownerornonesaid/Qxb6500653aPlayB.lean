/-
  THE PLAYER: a sheet and a layout over it; what a step keeps.
-/
import Derived.Test.Qxb6500653aStepA
import Derived.Test.Qxb6500653aRects
import Derived.Test.Qxb6500653aNewS
namespace Go.Proofs.Qxb6500653a
open Go.RowKit

theorem Kp.trans2 {X Y : Nat → Prop} {a b c : World} (h : Kp X a b) (k : Kp Y b c) (hy : ∀ j, j < a.heap.size → Y j → X j) : Kp X a c :=
  ⟨k.os.trans h.os, k.tape.trans h.tape, k.output.trans h.output, Nat.le_trans h.size k.size, fun j hj hx => (k.block j (Nat.lt_of_lt_of_le hj h.size) (fun e => hx (hy j hj e))).trans (h.block j hj hx)⟩

/-- the blocks in X have a truth as their second cell -/
def Boo1 (X : Nat → Prop) (w : World) : Prop := ∀ b, X b → ∃ v, w.cell? ⟨b, 1, none⟩ = some (.bool v)
theorem Boo1.ne {X : Nat → Prop} {w : World} (h : Boo1 X w) {b : Nat} {u : Value} (hb : w.cell? ⟨b, 1, none⟩ = some u) (hu : ∀ v, u ≠ .bool v) : ¬ X b := fun hx => by
  obtain ⟨v, hv⟩ := h b hx
  rw [hb] at hv
  exact hu v (Option.some.inj hv)
theorem Boo1.map {X : Nat → Prop} {w : World} (h : Boo1 X w) {b : Nat} {es : Array MapEntry} {c : Nat} (hb : w.heap[b]? = some (.map es c)) : ¬ X b := fun hx => by
  obtain ⟨v, hv⟩ := h b hx
  simp [World.cell?, hb] at hv
theorem SheetAt.head1 {w : World} {sb : Nat} {S : Sh} (h : SheetAt w sb S) {g : Nat} (hg : S.mv.ownBlock = some g) : ∃ i, w.cell? ⟨g, 1, none⟩ = some (.int .i64 i) := by
  rcases h.mrow.2 with ⟨e, _⟩ | ⟨g', cap, cur, e, _⟩
  · rw [e] at hg; cases hg
  · have e2 : g' = g := by rw [e] at hg; exact Option.some.inj hg
    subst e2
    cases hM : S.mg with
    | nil => rw [h.mnil hM] at e; cases e
    | cons a M =>
      have hr := h.mrow
      rw [e] at hr
      rw [hM] at hr
      exact ⟨_, (hr.cellAt 1 (by simp; omega)).trans rfl⟩
theorem SheetAt.boo1 {X : Nat → Prop} {w w' : World} {sb : Nat} {S : Sh} (h : SheetAt w sb S) (k : Kp X w w') (hX : Boo1 X w) : SheetAt w' sb S := by
  refine h.kp k (hX.ne (h.wd 1 (by omega)) (fun _ e => by cases e)) ?_ (fun g hg => ?_)
  · obtain ⟨c, hc⟩ := h.map
    exact hX.map hc
  · obtain ⟨i, hi⟩ := h.head1 hg
    exact hX.ne hi (fun _ e => by cases e)
theorem AxAt.boo1 {X : Nat → Prop} {w w' : World} {ab : Nat} {A : Ax} (h : AxAt w ab A) (k : Kp X w w') (hX : Boo1 X w) (hn : 1 < A.n) (hm : 1 < A.m) : AxAt w' ab A :=
  h.kp k (hX.ne h.c1 (fun _ e => by cases e)) (hX.ne (h.cz 1 hn) (fun _ e => by cases e)) (hX.ne (h.ct 1 hn) (fun _ e => by cases e)) (hX.ne (h.cl 1 hm) (fun _ e => by cases e))
theorem AxesAt.boo1 {X : Nat → Prop} {w w' : World} {rb cb : Nat} {S : Sh} {V : Vw} (h : AxesAt w rb cb S V) (k : Kp X w w') (hX : Boo1 X w) : AxesAt w' rb cb S V := by
  obtain ⟨a, b, c, h1⟩ := h.row
  obtain ⟨d, e, f, h2⟩ := h.col
  exact ⟨⟨a, b, c, h1.boo1 k hX (by show 1 < 64; omega) (by show 1 < 24; omega)⟩, ⟨d, e, f, h2.boo1 k hX (by show 1 < 26; omega) (by show 1 < 80; omega)⟩⟩
theorem LayAt.boo1 {X : Nat → Prop} {w w' : World} {lb sb : Nat} {S : Sh} {V : Vw} (h : LayAt w lb sb S V) (k : Kp X w w') (hX : Boo1 X w) : LayAt w' lb sb S V := by
  have hn : ¬ X lb := hX.ne h.c1 (fun _ e => by cases e)
  obtain ⟨rp, cp, rev, h5, h6, h7, hr, hk⟩ := h.kept
  refine ⟨k.cell h.src hn, k.cell h.c1 hn, k.cell h.c2 hn, k.cell h.c3 hn, k.cell h.c4 hn, ⟨rp, cp, rev, k.cell h5 hn, k.cell h6 hn, k.cell h7 hn, hr, ?_⟩, fun o => (k.frozen (p := ⟨lb, o, none⟩) h.lt hn).trans (h.free o)⟩
  rcases hk with hk | hk | ⟨rb, cb, e1, e2, hk⟩
  · exact Or.inl hk
  · exact Or.inr (Or.inl hk)
  · exact Or.inr (Or.inr ⟨rb, cb, e1, e2, hk.boo1 k hX⟩)

/-- the player at qb -/
structure GameAt (w : World) (qb sb lb : Nat) (S : Sh) (V : Vw) : Prop where
  sh : SheetAt w sb S
  ok : S.Ok
  lay : LayAt w lb sb S V
  vok : V.Ok
  born : Born w S
  q0 : w.cell? ⟨qb, 0, none⟩ = some (.pointer (some ⟨sb, 0, none⟩))
  q1 : w.cell? ⟨qb, 1, none⟩ = some (.pointer (some ⟨lb, 0, none⟩))
/-- the blocks that a step may write -/
def gX (sb lb : Nat) (S : Sh) : Nat → Prop := fun k => k = lb ∨ shX sb S k
section
variable {w w' : World} {qb sb lb : Nat} {S : Sh} {V : Vw}
theorem GameAt.lb_ne (h : GameAt w qb sb lb S V) : qb ≠ lb ∧ qb ≠ sb ∧ lb ≠ sb ∧ S.pb ≠ lb ∧ S.pb ≠ qb := by
  have a0 := h.q0
  have a1 := h.lay.src
  have a2 := h.sh.wd 0 (by omega)
  obtain ⟨c, hc⟩ := h.sh.map
  refine ⟨fun e => ?_, fun e => ?_, fun e => ?_, fun e => ?_, fun e => ?_⟩
  · rw [e, a1] at a0; cases a0
  · rw [e, a2] at a0; cases a0
  · rw [e, a2] at a1; cases a1
  · rw [e] at hc; simp [World.cell?, hc] at a1
  · rw [e] at hc; simp [World.cell?, hc] at a0
theorem GameAt.on (h : GameAt w qb sb lb S V) (k : Kp no w w') : GameAt w' qb sb lb S V :=
  ⟨h.sh.on k, h.ok, h.lay.on k, h.vok, h.born.kp k id _ rfl rfl, k.cell h.q0 id, k.cell h.q1 id⟩
theorem GameAt.boo1 {X : Nat → Prop} (h : GameAt w qb sb lb S V) (k : Kp X w w') (hX : Boo1 X w) : GameAt w' qb sb lb S V := by
  have hq : ¬ X qb := hX.ne h.q1 (fun _ e => by cases e)
  refine ⟨h.sh.boo1 k hX, h.ok, h.lay.boo1 k hX, h.vok, h.born.kp k ?_ _ rfl rfl, k.cell h.q0 hq, k.cell h.q1 hq⟩
  obtain ⟨c, hc⟩ := h.sh.map
  exact hX.map hc
/-- behind a call of the layout -/
theorem GameAt.call {V' : Vw} (h : GameAt w qb sb lb S V) (k : Kp (one lb) w w') (hL : LayAt w' lb sb S V') (hV : V'.Ok) : GameAt w' qb sb lb S V' := by
  obtain ⟨n1, n2, n3, n4, n5⟩ := h.lb_ne
  exact ⟨h.sh.far k h.lay.farOne, h.ok, hL, hV, h.born.kp k n4 _ rfl rfl, k.cell h.q0 n1, k.cell h.q1 n1⟩
theorem mv_lt (h : SheetAt w sb S) {g : Nat} (hg : S.mv.ownBlock = some g) : g < w.heap.size := by
  obtain ⟨i, hi⟩ := h.head hg
  exact cell_lt hi
theorem GameAt.gX_lt (h : GameAt w qb sb lb S V) {k : Nat} (hk : gX sb lb S k) : k < w.heap.size := by
  rcases hk with rfl | rfl | rfl | hk
  · exact h.lay.lt
  · exact h.sh.lt
  · exact h.sh.pb_lt
  · exact mv_lt h.sh hk
/-- behind Sheet.Step -/
theorem GameAt.stepped {S' : Sh} (h : GameAt w qb sb lb S V) (k : Kp (shX sb S) w w') (h1 : SheetAt w' sb S') (h2 : S'.Ok) (h3 : S'.steps = S.steps + 1) (h4 : Born w' S') : GameAt w' qb sb lb S' V := by
  obtain ⟨n1, n2, n3, n4, n5⟩ := h.lb_ne
  have hn : ¬ shX sb S lb := by
    rintro (e | e | e)
    · exact n3 e
    · exact n4 e.symm
    · obtain ⟨i, hi⟩ := h.sh.head e
      rw [h.lay.src] at hi
      cases hi
  have hq : ¬ shX sb S qb := by
    rintro (e | e | e)
    · exact n2 e
    · exact n5 e.symm
    · obtain ⟨i, hi⟩ := h.sh.head e
      rw [h.q0] at hi
      cases hi
  refine ⟨h1, h2, ?_, h.vok, h4, k.cell h.q0 hq, k.cell h.q1 hq⟩
  obtain ⟨rp, cp, rev, h5, h6, h7, hr, hk⟩ := h.lay.kept
  exact ⟨k.cell h.lay.src hn, k.cell h.lay.c1 hn, k.cell h.lay.c2 hn, k.cell h.lay.c3 hn, k.cell h.lay.c4 hn, ⟨rp, cp, rev, k.cell h5 hn, k.cell h6 hn, k.cell h7 hn, by omega, Or.inr (Or.inl (by omega))⟩, fun o => (k.frozen (p := ⟨lb, o, none⟩) h.lay.lt hn).trans (h.lay.free o)⟩
end

/-- Sheet.Step, at every step -/
def SheetStepOk : Prop := ∀ (w : World) (sb : Nat) (S : Sh), SheetAt w sb S → S.Ok → S.steps < 1000000 → Born w S → ∀ (o : Od), o.text.size ≤ 65536 →
    Calls Try.prog 30 #[.pointer (some ⟨sb, 0, none⟩), .agg #[.int .i64 o.kind, .int .i64 o.a, .int .i64 o.b, .int .i64 o.c, .int .i64 o.d, .string o.text]] w (StepPost sb S o.kind w)

/-- a step's box and its answer's -/
structure Bx6 (w : World) (b : Nat) (x0 x1 x2 x3 x4 x5 : Value) : Prop where
  c0 : w.cell? ⟨b, 0, none⟩ = some x0
  c1 : w.cell? ⟨b, 1, none⟩ = some x1
  c2 : w.cell? ⟨b, 2, none⟩ = some x2
  c3 : w.cell? ⟨b, 3, none⟩ = some x3
  c4 : w.cell? ⟨b, 4, none⟩ = some x4
  c5 : w.cell? ⟨b, 5, none⟩ = some x5
  free : ∀ i, w.frozen? ⟨b, i, none⟩ = false
theorem Bx6.kp {X : Nat → Prop} {w w' : World} {b : Nat} {x0 x1 x2 x3 x4 x5 : Value} (h : Bx6 w b x0 x1 x2 x3 x4 x5) (k : Kp X w w') (hx : ¬ X b) : Bx6 w' b x0 x1 x2 x3 x4 x5 :=
  ⟨k.cell h.c0 hx, k.cell h.c1 hx, k.cell h.c2 hx, k.cell h.c3 hx, k.cell h.c4 hx, k.cell h.c5 hx, fun i => (k.frozen (p := ⟨b, i, none⟩) (show b < w.heap.size from cell_lt h.c0) hx).trans (h.free i)⟩
theorem Bx6.made (w : World) (x0 x1 x2 x3 x4 x5 : Value) (t : TypeId) : Bx6 (w.alloc (.cells #[x0, x1, x2, x3, x4, x5] t)) w.heap.size x0 x1 x2 x3 x4 x5 :=
  ⟨by simp, by simp, by simp, by simp, by simp, by simp, fun i => by simp⟩
def put6 (w : World) (b : Nat) (x0 x1 x2 x3 x4 x5 : Value) : World := (((((w.setCell ⟨b, 0, none⟩ x0).setCell ⟨b, 1, none⟩ x1).setCell ⟨b, 2, none⟩ x2).setCell ⟨b, 3, none⟩ x3).setCell ⟨b, 4, none⟩ x4).setCell ⟨b, 5, none⟩ x5
theorem Bx6.set {w : World} {b : Nat} {x0 x1 x2 x3 x4 x5 : Value} (h : Bx6 w b x0 x1 x2 x3 x4 x5) (i : Nat) (v : Value) : Bx6 (w.setCell ⟨b, i, none⟩ v) b (if 0 = i then v else x0) (if 1 = i then v else x1) (if 2 = i then v else x2) (if 3 = i then v else x3) (if 4 = i then v else x4) (if 5 = i then v else x5) := by
  have g : ∀ j x, w.cell? ⟨b, j, none⟩ = some x → (w.setCell ⟨b, i, none⟩ v).cell? ⟨b, j, none⟩ = some (if j = i then v else x) := fun j x hx => by
    by_cases e : j = i
    · subst e; rw [if_pos rfl]; exact cset_eq _ _ _ _ hx
    · rw [if_neg e]; rw [cset_ne _ _ _ _ _ (Ne.symm e)]; exact hx
  exact ⟨g _ _ h.c0, g _ _ h.c1, g _ _ h.c2, g _ _ h.c3, g _ _ h.c4, g _ _ h.c5, fun j => by rw [World.frozen?_setCell]; exact h.free j⟩
theorem Bx6.put {w : World} {b : Nat} {x0 x1 x2 x3 x4 x5 : Value} (h : Bx6 w b x0 x1 x2 x3 x4 x5) (y0 y1 y2 y3 y4 y5 : Value) : Bx6 (put6 w b y0 y1 y2 y3 y4 y5) b y0 y1 y2 y3 y4 y5 :=
  ((((((h.set 0 y0).set 1 y1).set 2 y2).set 3 y3).set 4 y4).set 5 y5)
theorem Kp.put6 {X : Nat → Prop} {a w : World} (h : Kp X a w) {b : Nat} (hb : b < a.heap.size → X b) (x0 x1 x2 x3 x4 x5 : Value) : Kp X a (put6 w b x0 x1 x2 x3 x4 x5) := (((((h.setCell hb _).setCell hb _).setCell hb _).setCell hb _).setCell hb _).setCell hb _

/-- behind Sheet.Step, in the player's step -/
structure Mid (w w3 : World) (qb sb lb n0 : Nat) (S S' : Sh) (V : Vw) (o : Od) : Prop where
  kp : Kp (shX sb S) w w3
  g : GameAt w3 qb sb lb S' V
  steps : S'.steps = S.steps + 1
  pb : S'.pb = S.pb
  same : ¬ (0 ≤ o.kind ∧ o.kind ≤ 6) → S' = S.tick
  op : Bx6 w3 n0 (.int .i64 o.kind) (.int .i64 o.a) (.int .i64 o.b) (.int .i64 o.c) (.int .i64 o.d) (.string o.text)
  res : Bx6 w3 (n0 + 1) (.int .i64 0) (.bool false) (.int .i64 0) (.int .i64 0) (.slice none 0 0) (.slice none 0 0)
  new : n0 = w.heap.size
theorem Mid.of {w w2 w' w3 : World} {qb sb lb : Nat} {S S' : Sh} {V : Vw} {o : Od} (h : GameAt w qb sb lb S V)
    (hw2 : w2 = (w.alloc (.cells #[.int .i64 o.kind, .int .i64 o.a, .int .i64 o.b, .int .i64 o.c, .int .i64 o.d, .string o.text] 28)).alloc (.cells #[.int .i64 0, .bool false, .int .i64 0, .int .i64 0, .slice none 0 0, .slice none 0 0] 35))
    (k' : Kp no w2 w') (k : Kp (shX sb S) w' w3) (h1 : SheetAt w3 sb S') (h2 : S'.Ok) (h3 : S'.steps = S.steps + 1) (h4 : S'.pb = S.pb) (h5 : ¬ (0 ≤ o.kind ∧ o.kind ≤ 6) → S' = S.tick) (h6 : Born w3 S') : Mid w w3 qb sb lb w.heap.size S S' V o := by
  have k2 : Kp no w w2 := by rw [hw2]; exact ((Kp.refl no w).alloc _).alloc _
  have kw : Kp no w w' := k2.trans k'
  have hX : ∀ b, w.heap.size ≤ b → ¬ shX sb S b := fun b hb hx => by
    have := h.gX_lt (Or.inr hx)
    omega
  have b0 : Bx6 w2 w.heap.size (.int .i64 o.kind) (.int .i64 o.a) (.int .i64 o.b) (.int .i64 o.c) (.int .i64 o.d) (.string o.text) := by
    rw [hw2]
    exact (Bx6.made w _ _ _ _ _ _ 28).kp ((Kp.refl no _).alloc _) id
  have b1 : Bx6 w2 (w.heap.size + 1) (.int .i64 0) (.bool false) (.int .i64 0) (.int .i64 0) (.slice none 0 0) (.slice none 0 0) := by
    rw [hw2]
    have := Bx6.made (w.alloc (.cells #[.int .i64 o.kind, .int .i64 o.a, .int .i64 o.b, .int .i64 o.c, .int .i64 o.d, .string o.text] 28)) (.int .i64 0) (.bool false) (.int .i64 0) (.int .i64 0) (.slice none 0 0) (.slice none 0 0) 35
    rw [World.size_alloc] at this
    exact this
  exact ⟨(Kp.of_no kw).trans k, (h.on kw).stepped k h1 h2 h3 h6, h3, h4, h5, (b0.kp k' id).kp k (hX _ (Nat.le_refl _)), (b1.kp k' id).kp k (hX _ (Nat.le_succ _)), rfl⟩
/-- Step's contract for the player -/
theorem Mid.calls (hss : SheetStepOk) {w w2 w' : World} {qb sb lb : Nat} {S : Sh} {V : Vw} {o : Od} (h : GameAt w qb sb lb S V) (hst : S.steps < 1000000) (htx : o.text.size ≤ 65536)
    (hw2 : w2 = (w.alloc (.cells #[.int .i64 o.kind, .int .i64 o.a, .int .i64 o.b, .int .i64 o.c, .int .i64 o.d, .string o.text] 28)).alloc (.cells #[.int .i64 0, .bool false, .int .i64 0, .int .i64 0, .slice none 0 0, .slice none 0 0] 35))
    (k' : Kp no w2 w') : Calls Try.prog 30 #[.pointer (some ⟨sb, 0, none⟩), .agg #[.int .i64 o.kind, .int .i64 o.a, .int .i64 o.b, .int .i64 o.c, .int .i64 o.d, .string o.text]] w' fun e w3 =>
      ∃ (cd : Int) (S' : Sh), e = .returned (.tuple #[.int .i64 cd, .bool (decide (0 ≤ o.kind) && decide (o.kind ≤ 6))]) ∧ Mid w w3 qb sb lb w.heap.size S S' V o := by
  have k2 : Kp no w w2 := by rw [hw2]; exact ((Kp.refl no w).alloc _).alloc _
  have kw : Kp no w w' := k2.trans k'
  refine (hss w' sb S (h.sh.on kw) h.ok hst (h.born.kp kw id _ rfl rfl) o htx).mono ?_
  rintro e w3 ⟨cd, S', e1, e2, e3, e4, e5, e6, e7, e8⟩
  exact ⟨cd, S', e1, Mid.of h hw2 k' e2 e3 e4 e5 e6 e7 (e8 (h.born.kp kw id _ rfl rfl))⟩

/-- what the player's step leaves -/
def PlayPost (qb sb lb : Nat) (S : Sh) (V : Vw) (o : Od) (w : World) (e : Ending) (w' : World) : Prop :=
  ∃ (v : Value) (S' : Sh) (V' : Vw), e = .returned v ∧ Kp (gX sb lb S) w w' ∧ GameAt w' qb sb lb S' V' ∧ S'.steps = S.steps + 1 ∧ S'.pb = S.pb ∧
    (o.kind = 9 → S' = S.tick ∧ (inS o.a o.b = false → V' = V) ∧ ∀ rn cn : Nat, o.a = (rn : Int) → o.b = (cn : Int) → inS o.a o.b = true → RevVw S.tick V V' rn cn)
/-- the end: boxes of the step's own are written -/
theorem Mid.fin {w w3 w5 w6 wE : World} {qb sb lb n0 : Nat} {S S' : Sh} {V V' : Vw} {o : Od} (hm : Mid w w3 qb sb lb n0 S S' V o) (k5 : Kp no w3 w5) (k6 : Kp (one lb) w5 w6) (hL : LayAt w6 lb sb S' V') (hV : V'.Ok)
    {X : Nat → Prop} (kE : Kp X w6 wE) (hX : Boo1 X w6) (hn : ∀ b, X b → w.heap.size ≤ b) : Kp (gX sb lb S) w wE ∧ GameAt wE qb sb lb S' V' := by
  refine ⟨?_, ((hm.g.on k5).call k6 hL hV).boo1 kE hX⟩
  have k1 : Kp (gX sb lb S) w w5 := (hm.kp.mono (fun _ _ h => Or.inr h)).trans (Kp.of_no k5)
  have k2 : Kp (gX sb lb S) w w6 := k1.trans2 k6 (fun j _ e => Or.inl e)
  exact k2.trans2 kE (fun j hj e => absurd hj (by have := hn j e; omega))
theorem Mid.fin0 {w w3 wE : World} {qb sb lb n0 : Nat} {S S' : Sh} {V : Vw} {o : Od} (hm : Mid w w3 qb sb lb n0 S S' V o)
    {X : Nat → Prop} (kE : Kp X w3 wE) (hX : Boo1 X w3) (hn : ∀ b, X b → w.heap.size ≤ b) : Kp (gX sb lb S) w wE ∧ GameAt wE qb sb lb S' V := by
  refine ⟨?_, hm.g.boo1 kE hX⟩
  have k1 : Kp (gX sb lb S) w w3 := hm.kp.mono (fun _ _ h => Or.inr h)
  exact k1.trans2 kE (fun j hj e => absurd hj (by have := hn j e; omega))
end Go.Proofs.Qxb6500653a
