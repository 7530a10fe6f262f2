/-
  EveryPosition: an array [24][80]int in memory; the rows of rectangles and of panes; a rectangle's positions, one by one.
-/
import Derived.Test.Qxb6500653aClaim
import Derived.Test.Qxb6500653aRectsV
import Derived.Test.Qxb6500653aPanesV
import Derived.Test.Qxb6500653aFrameV
import Derived.Test.Qxb6500653aTwo
import Derived.Test.Qxb6500653aPlay13
namespace Go.Proofs.Qxb6500653a
open Go.RowKit

structure ArrAt (w : World) (b : Nat) (C : Nat → Nat → Nat) : Prop where
  at_ : ∀ y x, y < 24 → x < 80 → w.cell? ⟨b, y * 80 + x, none⟩ = some (.int .i64 (C y x : Int))
  free : ∀ o, w.frozen? ⟨b, o, none⟩ = false
theorem ArrAt.lt {w : World} {b : Nat} {C : Nat → Nat → Nat} (h : ArrAt w b C) : b < w.heap.size := cell_lt (h.at_ 0 0 (by omega) (by omega))
theorem ArrAt.kp {X : Nat → Prop} {w w' : World} {b : Nat} {C : Nat → Nat → Nat} (h : ArrAt w b C) (k : Kp X w w') (hx : ¬ X b) : ArrAt w' b C :=
  ⟨fun y x hy hx' => k.cell (h.at_ y x hy hx') hx, fun o => (k.frozen (p := ⟨b, o, none⟩) h.lt hx).trans (h.free o)⟩
theorem ArrAt.cong {w : World} {b : Nat} {C C' : Nat → Nat → Nat} (h : ArrAt w b C) (e : ∀ y x, y < 24 → x < 80 → C y x = C' y x) : ArrAt w b C' := ⟨fun y x hy hx => by rw [← e y x hy hx]; exact h.at_ y x hy hx, h.free⟩
theorem ArrAt.up {w : World} {b : Nat} {C : Nat → Nat → Nat} (h : ArrAt w b C) {y x : Nat} (hy : y < 24) (hx : x < 80) : ArrAt (w.setCell ⟨b, y * 80 + x, none⟩ (.int .i64 ((C y x : Int) + 1))) b (fun y' x' => if y' = y ∧ x' = x then C y x + 1 else C y' x') := by
  refine ⟨fun y' x' hy' hx' => ?_, fun o => by rw [World.frozen?_setCell]; exact h.free o⟩
  by_cases e : y' = y ∧ x' = x
  · obtain ⟨rfl, rfl⟩ := e
    rw [if_pos ⟨rfl, rfl⟩]
    exact cset_eq _ _ _ _ (h.at_ y' x' hy hx)
  · rw [if_neg e, cset_ne _ _ _ _ _ (by omega)]
    exact h.at_ y' x' hy' hx'
/-- all zero -/
def chk0 : Nat → List Value → Bool
  | 0, [] => true
  | n + 1, .int .i64 0 :: r => chk0 n r
  | _, _ => false
theorem chk0_at : ∀ (n : Nat) (l : List Value), chk0 n l = true → ∀ i, i < n → l[i]? = some (.int .i64 0)
  | 0, _, _, i, hi => by omega
  | n + 1, l, h, i, hi => by
    cases l with
    | nil => simp [chk0] at h
    | cons v r =>
      unfold chk0 at h
      split at h
      · rename_i heq _; simp at heq
      · rename_i n' r' heq heq'
        cases heq
        cases heq'
        cases i with
        | zero => rfl
        | succ i => exact chk0_at _ _ h i (by omega)
      · cases h
theorem zeroCells47 : chk0 1920 Try.zeroCells47.toList = true := by kernel_rfl
theorem arr_newZ (Z : Array Value) (hZ : chk0 1920 Z.toList = true) (w : World) : ArrAt (w.alloc (.cells Z 47)) w.heap.size (fun _ _ => 0) :=
  ⟨fun y x hy hx => by
    rw [World.cell?_alloc_new, ← Array.getElem?_toList]
    exact chk0_at 1920 _ hZ (y * 80 + x) (by omega), fun o => World.frozen?_alloc_cells w o⟩
theorem arr_new (w : World) : ArrAt (w.alloc (.cells Try.zeroCells47 47)) w.heap.size (fun _ _ => 0) := arr_newZ _ zeroCells47 w
/-- both -/
theorem arr_two (w : World) : ArrAt ((w.alloc (.cells Try.zeroCells47 47)).alloc (.cells Try.zeroCells47 47)) w.heap.size (fun _ _ => 0) ∧ ArrAt ((w.alloc (.cells Try.zeroCells47 47)).alloc (.cells Try.zeroCells47 47)) (w.heap.size + 1) (fun _ _ => 0) ∧ Kp no w ((w.alloc (.cells Try.zeroCells47 47)).alloc (.cells Try.zeroCells47 47)) := by
  refine ⟨(arr_new w).kp ((Kp.refl no _).alloc _) id, ?_, ((Kp.refl no w).alloc _).alloc _⟩
  have h := arr_new (w.alloc (.cells Try.zeroCells47 47))
  rw [World.size_alloc] at h
  exact h

/-- how much of a rectangle Y0..Y1, X0..X1 was met before (y, x) -/
def partR (Y0 X0 Y1 X1 y x y' x' : Nat) : Nat := if (Y0 ≤ y' ∧ y' < Y1 ∧ X0 ≤ x' ∧ x' < X1) ∧ (y' < y ∨ (y' = y ∧ x' < x)) then 1 else 0
theorem part_start (Y0 X0 Y1 X1 y' x' : Nat) : partR Y0 X0 Y1 X1 Y0 X0 y' x' = 0 := if_neg (fun h => by omega)
theorem part_row {Y0 X0 Y1 X1 y : Nat} (y' x' : Nat) : partR Y0 X0 Y1 X1 y X1 y' x' = partR Y0 X0 Y1 X1 (y + 1) X0 y' x' := by
  unfold partR
  by_cases h : (Y0 ≤ y' ∧ y' < Y1 ∧ X0 ≤ x' ∧ x' < X1) ∧ (y' < y ∨ (y' = y ∧ x' < X1))
  · rw [if_pos h, if_pos ⟨h.1, by omega⟩]
  · rw [if_neg h, if_neg (fun h' => h ⟨h'.1, by omega⟩)]
theorem part_next {Y0 X0 Y1 X1 y x : Nat} (hy : Y0 ≤ y ∧ y < Y1) (hx : X0 ≤ x ∧ x < X1) (y' x' : Nat) : partR Y0 X0 Y1 X1 y (x + 1) y' x' = partR Y0 X0 Y1 X1 y x y' x' + (if y' = y ∧ x' = x then 1 else 0) := by
  unfold partR
  by_cases h : y' = y ∧ x' = x
  · obtain ⟨rfl, rfl⟩ := h
    rw [if_pos ⟨by omega, by omega⟩, if_neg (fun h' => by omega), if_pos ⟨rfl, rfl⟩]
  · rw [if_neg h]
    by_cases h2 : (Y0 ≤ y' ∧ y' < Y1 ∧ X0 ≤ x' ∧ x' < X1) ∧ (y' < y ∨ (y' = y ∧ x' < x))
    · rw [if_pos h2, if_pos ⟨h2.1, by omega⟩]
    · rw [if_neg h2, if_neg (fun h' => h2 ⟨h'.1, by omega⟩)]
theorem part_all {Y0 X0 Y1 X1 : Nat} (y' x' : Nat) : partR Y0 X0 Y1 X1 Y1 X0 y' x' = if Y0 ≤ y' ∧ y' < Y1 ∧ X0 ≤ x' ∧ x' < X1 then 1 else 0 := by
  unfold partR
  by_cases h : Y0 ≤ y' ∧ y' < Y1 ∧ X0 ≤ x' ∧ x' < X1
  · rw [if_pos h, if_pos ⟨h, by omega⟩]
  · rw [if_neg h, if_neg (fun h' => h h'.1)]
/-- the array while the rectangle is counted -/
def plusR (B : Nat → Nat → Nat) (Y0 X0 Y1 X1 y x : Nat) : Nat → Nat → Nat := fun y' x' => B y' x' + partR Y0 X0 Y1 X1 y x y' x'
theorem ArrAt.plus {w : World} {b : Nat} {B : Nat → Nat → Nat} {Y0 X0 Y1 X1 y x : Nat} (h : ArrAt w b (plusR B Y0 X0 Y1 X1 y x)) (hy : Y0 ≤ y ∧ y < Y1) (hx : X0 ≤ x ∧ x < X1) (h24 : Y1 ≤ 24) (h80 : X1 ≤ 80) :
    ArrAt (w.setCell ⟨b, y * 80 + x, none⟩ (.int .i64 ((plusR B Y0 X0 Y1 X1 y x y x : Int) + 1))) b (plusR B Y0 X0 Y1 X1 y (x + 1)) := by
  refine (h.up (by omega) (by omega)).cong fun y' x' _ _ => ?_
  unfold plusR
  rw [part_next hy hx y' x']
  by_cases e : y' = y ∧ x' = x
  · obtain ⟨rfl, rfl⟩ := e
    rw [if_pos ⟨rfl, rfl⟩, if_pos ⟨rfl, rfl⟩]
    omega
  · rw [if_neg e, if_neg e]
    omega
theorem ArrAt.plus_start {w : World} {b : Nat} {B : Nat → Nat → Nat} (h : ArrAt w b B) (Y0 X0 Y1 X1 : Nat) : ArrAt w b (plusR B Y0 X0 Y1 X1 Y0 X0) := h.cong fun y' x' _ _ => by unfold plusR; rw [part_start]; omega
theorem ArrAt.plus_row {w : World} {b : Nat} {B : Nat → Nat → Nat} {Y0 X0 Y1 X1 y : Nat} (h : ArrAt w b (plusR B Y0 X0 Y1 X1 y X1)) : ArrAt w b (plusR B Y0 X0 Y1 X1 (y + 1) X0) := h.cong fun y' x' _ _ => by unfold plusR; rw [part_row]
theorem ArrAt.plus_all {w : World} {b : Nat} {B B' : Nat → Nat → Nat} {Y0 X0 Y1 X1 : Nat} (h : ArrAt w b (plusR B Y0 X0 Y1 X1 Y1 X0)) (e : ∀ y' x', y' < 24 → x' < 80 → B y' x' + (if Y0 ≤ y' ∧ y' < Y1 ∧ X0 ≤ x' ∧ x' < X1 then 1 else 0) = B' y' x') : ArrAt w b B' := h.cong fun y' x' h1 h2 => by unfold plusR; rw [part_all]; exact e y' x' h1 h2
theorem plus_le {B : Nat → Nat → Nat} {n : Nat} (h : ∀ y x, B y x ≤ n) (Y0 X0 Y1 X1 y x y' x' : Nat) : plusR B Y0 X0 Y1 X1 y x y' x' ≤ n + 1 := by
  have := h y' x'
  unfold plusR partR
  split <;> omega

/-! ### rows in memory -/
theorem flatR_at : ∀ (L : List Rc) (j : Nat) (R : Rc), L[j]? = some R → ∀ i, i < 4 → (flatR L)[j * 4 + i]? = R.cells[i]?
  | [], j, R, h, i, hi => by simp at h
  | a :: m, j, R, h, i, hi => by
    cases j with
    | zero =>
      simp only [List.getElem?_cons_zero, Option.some.injEq] at h
      subst h
      show (a.cells ++ flatR m)[0 * 4 + i]? = _
      rw [Nat.zero_mul, Nat.zero_add, List.getElem?_append_left (by show i < 4; exact hi)]
    | succ j =>
      have h' : m[j]? = some R := by simpa using h
      have ih := flatR_at m j R h' i hi
      show (a.cells ++ flatR m)[(j + 1) * 4 + i]? = _
      rw [List.getElem?_append_right (by show 4 ≤ _; omega), ← ih]
      congr 1
      show (j + 1) * 4 + i - 4 = _
      omega
theorem flatP_at : ∀ (L : List Pn) (j : Nat) (R : Pn), L[j]? = some R → ∀ i, i < 8 → (flatP L)[j * 8 + i]? = R.cells[i]?
  | [], j, R, h, i, hi => by simp at h
  | a :: m, j, R, h, i, hi => by
    cases j with
    | zero =>
      simp only [List.getElem?_cons_zero, Option.some.injEq] at h
      subst h
      show (a.cells ++ flatP m)[0 * 8 + i]? = _
      rw [Nat.zero_mul, Nat.zero_add, List.getElem?_append_left (by show i < 8; exact hi)]
    | succ j =>
      have h' : m[j]? = some R := by simpa using h
      have ih := flatP_at m j R h' i hi
      show (a.cells ++ flatP m)[(j + 1) * 8 + i]? = _
      rw [List.getElem?_append_right (by show 8 ≤ _; omega), ← ih]
      congr 1
      show (j + 1) * 8 + i - 8 = _
      omega
end Go.Proofs.Qxb6500653a
