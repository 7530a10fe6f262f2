/-
  WHAT A CALL KEEPS; ROWS OF NUMBERS.
-/
import Derived.Test.Qxb6500653aReveal
namespace Go.Proofs.Qxb6500653a
open Go.RowKit

/-- w' is w but for the blocks in X and new ones -/
structure Kp (X : Nat → Prop) (w w' : World) : Prop where
  os : w'.os = w.os
  tape : w'.tape = w.tape
  output : w'.output = w.output
  size : w.heap.size ≤ w'.heap.size
  block : ∀ k, k < w.heap.size → ¬ X k → w'.heap[k]? = w.heap[k]?
def no : Nat → Prop := fun _ => False
def one (g : Nat) : Nat → Prop := fun k => k = g

theorem Kp.refl (X : Nat → Prop) (w : World) : Kp X w w := ⟨rfl, rfl, rfl, Nat.le_refl _, fun _ _ _ => rfl⟩
theorem Kp.trans {X : Nat → Prop} {a b c : World} (h : Kp X a b) (k : Kp X b c) : Kp X a c :=
  ⟨k.os.trans h.os, k.tape.trans h.tape, k.output.trans h.output, Nat.le_trans h.size k.size, fun j hj hx => (k.block j (Nat.lt_of_lt_of_le hj h.size) hx).trans (h.block j hj hx)⟩
theorem Kp.mono {X Y : Nat → Prop} {a b : World} (h : Kp X a b) (hx : ∀ k, k < a.heap.size → X k → Y k) : Kp Y a b :=
  ⟨h.os, h.tape, h.output, h.size, fun j hj hy => h.block j hj (fun h' => hy (hx j hj h'))⟩
theorem Kp.of_no {X : Nat → Prop} {a b : World} (h : Kp no a b) : Kp X a b := h.mono fun _ _ h => h.elim
theorem Kp.drewN {X : Nat → Prop} {a b : World} (h : Kp X a b) (q : Nat) : Kp X a (b.drewN q) := ⟨h.os, h.tape, h.output, h.size, h.block⟩
theorem Kp.drew {X : Nat → Prop} {a b : World} (h : Kp X a b) : Kp X a b.drew := ⟨h.os, h.tape, h.output, h.size, h.block⟩
theorem Kp.drewN_left {X : Nat → Prop} {a b : World} (q : Nat) (h : Kp X (a.drewN q) b) : Kp X a b := ⟨h.os, h.tape, h.output, h.size, h.block⟩
theorem Kp.alloc {X : Nat → Prop} {a b : World} (h : Kp X a b) (o : Obj) : Kp X a (b.alloc o) :=
  ⟨h.os, h.tape, h.output, Nat.le_trans h.size (by rw [World.size_alloc]; omega), fun k hk hx => by rw [Below.heap_alloc _ _ _ (Nat.lt_of_lt_of_le hk h.size)]; exact h.block k hk hx⟩
theorem Kp.setCell {X : Nat → Prop} {a b : World} (h : Kp X a b) {p : Addr} (hp : p.block < a.heap.size → X p.block) (v : Value) : Kp X a (b.setCell p v) :=
  have t := (Below.refl 0 b).setCell (p := p) (Nat.zero_le _) v
  ⟨t.os.trans h.os, t.tape.trans h.tape, t.output.trans h.output, Nat.le_trans h.size t.size, fun k hk hx => by
    rw [Below.heap_setCell _ _ _ _ (fun e => hx (by subst e; exact hp hk))]; exact h.block k hk hx⟩
theorem Kp.of_below {w w' : World} (h : Below w.heap.size w w') : Kp no w w' := ⟨h.os, h.tape, h.output, h.size, fun k hk _ => h.block k hk⟩
theorem Kp.of_grown {w w' : World} {g : Nat} (h : w.grownBy w' (some g)) : Kp (one g) w w' := ⟨h.os, h.tape, h.output, h.size, fun k hk hx => h.block k hk (fun e => hx (Option.some.inj e))⟩
theorem Kp.grown {w w' : World} {g : Nat} (h : Kp (one g) w w') : w.grownBy w' (some g) := ⟨h.os, h.tape, h.output, h.size, fun k hk hx => h.block k hk (fun e => hx (by rw [e]))⟩
theorem Kp.below {w w' : World} (h : Kp no w w') : Below w.heap.size w w' := ⟨h.os, h.tape, h.output, h.size, fun k hk => h.block k hk id⟩
/-- and so of what stands below -/
theorem Kp.under {X : Nat → Prop} {B : Nat} {a b c : World} (h : Below B a b) (hB : B ≤ b.heap.size) (k : Kp X b c) (hx : ∀ j, X j → B ≤ j) : Below B a c :=
  ⟨k.os.trans h.os, k.tape.trans h.tape, k.output.trans h.output, Nat.le_trans h.size k.size, fun j hj => (k.block j (by omega) (fun h' => by have := hx j h'; omega)).trans (h.block j hj)⟩

theorem cell_lt {w : World} {p : Addr} {v : Value} (h : w.cell? p = some v) : p.block < w.heap.size := by
  rcases Nat.lt_or_ge p.block w.heap.size with h' | h'
  · exact h'
  · simp [World.cell?, Array.getElem?_eq_none h'] at h
theorem Kp.cell {X : Nat → Prop} {w w' : World} (h : Kp X w w') {p : Addr} {v : Value} (hc : w.cell? p = some v) (hx : ¬ X p.block) : w'.cell? p = some v := by
  rw [World.cell?_of_block (w := w) (h.block p.block (cell_lt hc) hx)]; exact hc
theorem Kp.frozen {X : Nat → Prop} {w w' : World} (h : Kp X w w') {p : Addr} (hc : p.block < w.heap.size) (hx : ¬ X p.block) : w'.frozen? p = w.frozen? p := World.frozen?_of_block (w := w) (h.block p.block hc hx)

/-- a row of n numbers at block b -/
structure IRow (w : World) (b n : Nat) (f : Nat → Int) : Prop where
  at_ : ∀ i, i < n → w.cell? ⟨b, i, none⟩ = some (.int .i64 (f i))
  free : ∀ i, w.frozen? ⟨b, i, none⟩ = false
  lt : b < w.heap.size

theorem IRow.kp {X : Nat → Prop} {w w' : World} {b n : Nat} {f : Nat → Int} (h : IRow w b n f) (k : Kp X w w') (hx : ¬ X b) : IRow w' b n f :=
  ⟨fun i hi => k.cell (h.at_ i hi) hx, fun i => (k.frozen (p := ⟨b, i, none⟩) h.lt hx).trans (h.free i), Nat.lt_of_lt_of_le h.lt k.size⟩
theorem IRow.cong {w : World} {b n : Nat} {f g : Nat → Int} (h : IRow w b n f) (e : ∀ i, i < n → f i = g i) : IRow w b n g := ⟨fun i hi => by rw [← e i hi]; exact h.at_ i hi, h.free, h.lt⟩
theorem IRow.set {w : World} {b n : Nat} {f : Nat → Int} (h : IRow w b n f) {i : Nat} (hi : i < n) (v : Int) : IRow (w.setCell ⟨b, i, none⟩ (.int .i64 v)) b n (fun k => if k = i then v else f k) :=
  ⟨fun k hk => by
    by_cases e : k = i
    · subst e; rw [if_pos rfl]; exact World.cell?_setCell_same _ _ _ (h.at_ k hk)
    · rw [if_neg e, World.cell?_setCell_other _ _ _ _ (by intro e'; injection e' with _ e2; exact e e2.symm)]; exact h.at_ k hk,
   fun k => by rw [World.frozen?_setCell]; exact h.free k, by rw [World.size_setCell]; exact h.lt⟩
theorem Kp.set {w : World} {X : Nat → Prop} (p : Addr) (v : Value) (hx : X p.block) : Kp X w (w.setCell p v) := (Kp.refl X w).setCell (fun _ => hx) v

theorem cset_ne (w : World) (b i j : Nat) (v : Value) (h : i ≠ j) : (w.setCell ⟨b, i, none⟩ v).cell? ⟨b, j, none⟩ = w.cell? ⟨b, j, none⟩ :=
  World.cell?_setCell_other _ _ _ _ (by intro e; injection e with _ e2; exact h e2)
theorem cset_eq (w : World) (b i : Nat) (v : Value) {u : Value} (h : w.cell? ⟨b, i, none⟩ = some u) : (w.setCell ⟨b, i, none⟩ v).cell? ⟨b, i, none⟩ = some v := World.cell?_setCell_same _ _ _ h

/-- a small struct, all its cells written -/
def put2 (w : World) (b : Nat) (x0 x1 : Value) : World := (w.setCell ⟨b, 0, none⟩ x0).setCell ⟨b, 1, none⟩ x1
def put3 (w : World) (b : Nat) (x0 x1 x2 : Value) : World := ((w.setCell ⟨b, 0, none⟩ x0).setCell ⟨b, 1, none⟩ x1).setCell ⟨b, 2, none⟩ x2
def put4 (w : World) (b : Nat) (x0 x1 x2 x3 : Value) : World := (((w.setCell ⟨b, 0, none⟩ x0).setCell ⟨b, 1, none⟩ x1).setCell ⟨b, 2, none⟩ x2).setCell ⟨b, 3, none⟩ x3
theorem put2_at {w : World} {b : Nat} {u0 u1 : Value} (h0 : w.cell? ⟨b, 0, none⟩ = some u0) (h1 : w.cell? ⟨b, 1, none⟩ = some u1) (x0 x1 : Value) :
    (put2 w b x0 x1).cell? ⟨b, 0, none⟩ = some x0 ∧ (put2 w b x0 x1).cell? ⟨b, 1, none⟩ = some x1 := by
  refine ⟨?_, ?_⟩
  · rw [put2, cset_ne _ _ _ _ _ (by decide)]; exact cset_eq _ _ _ _ h0
  · exact cset_eq _ _ _ _ ((cset_ne _ _ _ _ _ (by decide)).trans h1)
theorem put3_at {w : World} {b : Nat} {u0 u1 u2 : Value} (h0 : w.cell? ⟨b, 0, none⟩ = some u0) (h1 : w.cell? ⟨b, 1, none⟩ = some u1) (h2 : w.cell? ⟨b, 2, none⟩ = some u2) (x0 x1 x2 : Value) :
    (put3 w b x0 x1 x2).cell? ⟨b, 0, none⟩ = some x0 ∧ (put3 w b x0 x1 x2).cell? ⟨b, 1, none⟩ = some x1 ∧ (put3 w b x0 x1 x2).cell? ⟨b, 2, none⟩ = some x2 := by
  obtain ⟨a, c⟩ := put2_at h0 h1 x0 x1
  refine ⟨(cset_ne _ _ _ _ _ (by decide)).trans a, (cset_ne _ _ _ _ _ (by decide)).trans c, cset_eq _ _ _ _ ((cset_ne _ _ _ _ _ (by decide)).trans ((cset_ne _ _ _ _ _ (by decide)).trans h2))⟩
theorem put4_at {w : World} {b : Nat} {u0 u1 u2 u3 : Value} (h0 : w.cell? ⟨b, 0, none⟩ = some u0) (h1 : w.cell? ⟨b, 1, none⟩ = some u1) (h2 : w.cell? ⟨b, 2, none⟩ = some u2) (h3 : w.cell? ⟨b, 3, none⟩ = some u3) (x0 x1 x2 x3 : Value) :
    (put4 w b x0 x1 x2 x3).cell? ⟨b, 0, none⟩ = some x0 ∧ (put4 w b x0 x1 x2 x3).cell? ⟨b, 1, none⟩ = some x1 ∧ (put4 w b x0 x1 x2 x3).cell? ⟨b, 2, none⟩ = some x2 ∧ (put4 w b x0 x1 x2 x3).cell? ⟨b, 3, none⟩ = some x3 := by
  obtain ⟨a, c, d⟩ := put3_at h0 h1 h2 x0 x1 x2
  refine ⟨(cset_ne _ _ _ _ _ (by decide)).trans a, (cset_ne _ _ _ _ _ (by decide)).trans c, (cset_ne _ _ _ _ _ (by decide)).trans d, cset_eq _ _ _ _ ((cset_ne _ _ _ _ _ (by decide)).trans ((cset_ne _ _ _ _ _ (by decide)).trans ((cset_ne _ _ _ _ _ (by decide)).trans h3)))⟩
theorem Kp.put2 {X : Nat → Prop} {a w : World} (h : Kp X a w) {b : Nat} (hb : b < a.heap.size → X b) (x0 x1 : Value) : Kp X a (put2 w b x0 x1) := (h.setCell hb _).setCell hb _
theorem Kp.put3 {X : Nat → Prop} {a w : World} (h : Kp X a w) {b : Nat} (hb : b < a.heap.size → X b) (x0 x1 x2 : Value) : Kp X a (put3 w b x0 x1 x2) := (h.put2 hb _ _).setCell hb _
theorem Kp.put4 {X : Nat → Prop} {a w : World} (h : Kp X a w) {b : Nat} (hb : b < a.heap.size → X b) (x0 x1 x2 x3 : Value) : Kp X a (put4 w b x0 x1 x2 x3) := (h.put3 hb _ _ _).setCell hb _
end Go.Proofs.Qxb6500653a
