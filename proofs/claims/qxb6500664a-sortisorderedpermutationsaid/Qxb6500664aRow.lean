/-
  A ROW OF TAGGED ELEMENTS IN MEMORY, and what the sort's loops do to it. 'ev t': the cells of the element with tag t.
-/
import Derived.Test.Qxb6500664aLess
import Derived.Lib.SmallJoins
namespace Go.Proofs.Qxb6500664a
open Go.RowKit

/-- block g holds the elements p, and nothing else -/
structure RowAt (ty : TypeId) (ev : Nat → List Value) (w : World) (g : Nat) (p : List Nat) : Prop where
  blk : w.heap[g]? = some (.cells (p.flatMap ev).toArray ty (0, 0))

theorem RowAt.lt {ty : TypeId} {ev : Nat → List Value} {w : World} {g : Nat} {p : List Nat} (h : RowAt ty ev w g p) : g < w.heap.size := by
  rcases Nat.lt_or_ge g w.heap.size with h' | h'
  · exact h'
  · have := h.blk; rw [Array.getElem?_eq_none h'] at this; simp at this

theorem RowAt.below {ty : TypeId} {ev : Nat → List Value} {w w' : World} {g : Nat} {p : List Nat} (h : RowAt ty ev w g p) (hb : Below w.heap.size w w') : RowAt ty ev w' g p :=
  ⟨(hb.block g h.lt).trans h.blk⟩
theorem RowAt.other {ty : TypeId} {ev : Nat → List Value} {w w' : World} {g g' : Nat} {p : List Nat} (h : RowAt ty ev w g p) (hb : w.grownBy w' (some g')) (hne : g ≠ g') : RowAt ty ev w' g p :=
  ⟨(hb.block g h.lt (fun e => hne (Option.some.inj e))).trans h.blk⟩
theorem RowAt.alloc {ty : TypeId} {ev : Nat → List Value} {w : World} {g : Nat} {p : List Nat} (h : RowAt ty ev w g p) (o : Obj) : RowAt ty ev (w.alloc o) g p :=
  ⟨(Below.heap_alloc _ _ _ h.lt).trans h.blk⟩
theorem RowAt.drew {ty : TypeId} {ev : Nat → List Value} {w : World} {g : Nat} {p : List Nat} (h : RowAt ty ev w g p) : RowAt ty ev w.drew g p := ⟨h.blk⟩

theorem flat_len {ev : Nat → List Value} {sz : Nat} (hev : ∀ t, (ev t).length = sz) (A : List Nat) : (A.flatMap ev).length = A.length * sz := by
  induction A with
  | nil => simp
  | cons a A ih => rw [List.flatMap_cons, List.length_append, hev, ih, List.length_cons, Nat.succ_mul]; omega

theorem RowAt.cell {ty : TypeId} {ev : Nat → List Value} {sz : Nat} (hev : ∀ t, (ev t).length = sz) {w : World} {g : Nat} {A B : List Nat} {x : Nat} (h : RowAt ty ev w g (A ++ x :: B)) (c : Nat) (hc : c < sz) :
    w.cell? ⟨g, A.length * sz + c, none⟩ = (ev x)[c]? := by
  rw [Joins.cell_of_block h.blk]
  rw [List.getElem?_toArray, List.flatMap_append, List.flatMap_cons, List.getElem?_append_right (by rw [flat_len hev]; omega), flat_len hev, List.getElem?_append_left (by rw [hev]; omega)]
  congr 1; omega

theorem RowAt.free {ty : TypeId} {ev : Nat → List Value} {w : World} {g : Nat} {p : List Nat} (h : RowAt ty ev w g p) (i : Nat) : w.frozen? ⟨g, i, none⟩ = false := Joins.unfrozen_of_block h.blk i

theorem set_flat {ev : Nat → List Value} {sz : Nat} (hev : ∀ t, (ev t).length = sz) (A : List Nat) (l : List Value) (R : List Value) (c : Nat) (hc : c < l.length) (v : Value) :
    (A.flatMap ev ++ (l ++ R)).set (A.length * sz + c) v = A.flatMap ev ++ (l.set c v ++ R) := by
  rw [List.set_append_right _ _ (by rw [flat_len hev]; omega), flat_len hev, List.set_append_left _ _ (by omega)]
  rw [show A.length * sz + c - A.length * sz = c by omega]

/-- one cell of one element -/
theorem row_set1 {ty : TypeId} {ev : Nat → List Value} (hev : ∀ t, (ev t).length = 1) {w : World} {g : Nat} {A B : List Nat} {x t : Nat} {v : Value} (hv : ev t = [v]) (h : RowAt ty ev w g (A ++ x :: B)) :
    RowAt ty ev (w.setCell ⟨g, A.length, none⟩ v) g (A ++ t :: B) := by
  refine ⟨?_⟩
  rw [Joins.block_setCell h.blk, List.setIfInBounds_toArray, List.flatMap_append, List.flatMap_cons]
  have e := set_flat hev A (ev x) (B.flatMap ev) 0 (by rw [hev]; omega) v
  rw [Nat.mul_one, Nat.add_zero] at e
  rw [e, List.flatMap_append, List.flatMap_cons, hv]
  have h1 := hev x
  cases hx : ev x with
  | nil => rw [hx] at h1; simp at h1
  | cons y r =>
    rw [hx] at h1
    simp at h1
    subst h1
    rfl

/-- two cells of one element -/
theorem row_set2 {ty : TypeId} {ev : Nat → List Value} (hev : ∀ t, (ev t).length = 2) {w : World} {g : Nat} {A B : List Nat} {x t : Nat} {v0 v1 : Value} (hv : ev t = [v0, v1]) (h : RowAt ty ev w g (A ++ x :: B)) :
    RowAt ty ev ((w.setCell ⟨g, A.length * 2, none⟩ v0).setCell ⟨g, A.length * 2 + 1, none⟩ v1) g (A ++ t :: B) := by
  refine ⟨?_⟩
  rw [Joins.block_setCell (Joins.block_setCell h.blk v0), List.setIfInBounds_toArray, List.setIfInBounds_toArray, List.flatMap_append, List.flatMap_cons]
  have h1 := hev x
  have e := set_flat hev A (ev x) (B.flatMap ev) 0 (by rw [hev]; omega) v0
  rw [Nat.add_zero] at e
  rw [e, set_flat hev A ((ev x).set 0 v0) (B.flatMap ev) 1 (by rw [List.length_set, hev]; omega) v1, List.flatMap_append, List.flatMap_cons, hv]
  cases hx : ev x with
  | nil => rw [hx] at h1; simp at h1
  | cons y r =>
    cases r with
    | nil => rw [hx] at h1; simp at h1
    | cons z r =>
      rw [hx] at h1
      simp at h1
      subst h1
      rfl

/-! ### the frame -/
theorem grown_refl (w : World) (r : Option Nat) : w.grownBy w r := ⟨rfl, rfl, rfl, Nat.le_refl _, fun _ _ _ => rfl⟩
theorem grown_trans {a b c : World} {r : Option Nat} (h1 : a.grownBy b r) (h2 : b.grownBy c r) : a.grownBy c r :=
  ⟨h2.os.trans h1.os, h2.tape.trans h1.tape, h2.output.trans h1.output, Nat.le_trans h1.size h2.size, fun k hk hr => (h2.block k (Nat.lt_of_lt_of_le hk h1.size) hr).trans (h1.block k hk hr)⟩
theorem grown_below {a b : World} (h : Below a.heap.size a b) (r : Option Nat) : a.grownBy b r := ⟨h.os, h.tape, h.output, h.size, fun k hk _ => h.block k hk⟩
theorem grown_set {a : World} {g i : Nat} (v : Value) : a.grownBy (a.setCell ⟨g, i, none⟩ v) (some g) :=
  ⟨rfl, rfl, rfl, by simp [World.setCell], fun k _ hr => Below.heap_setCell _ _ _ _ (fun e => hr (by rw [e]))⟩
theorem grown_alloc {a b : World} {r : Option Nat} (h : a.grownBy b r) (o : Obj) : a.grownBy (b.alloc o) r :=
  grown_trans h (grown_below ((Below.refl _ _).alloc (Nat.le_refl _) o) r)
theorem grown_drew {a b : World} {r : Option Nat} (h : a.grownBy b r) : a.grownBy b.drew r := ⟨h.os, h.tape, h.output, h.size, h.block⟩

/-- what the keys' memory is told by: W0 holds all keys; nothing of W0 turns -/
theorem env_grown {W0 w w' : World} {g : Nat} (h : Below W0.heap.size W0 w) (hg : W0.heap.size ≤ g) (hgr : w.grownBy w' (some g)) : Below W0.heap.size W0 w' :=
  h.grown hgr h.size (fun k hk => by rw [← Option.some.inj hk]; exact hg)

theorem key_in {W0 w : World} {s : BSl} (h : s.At W0) (hb : Below W0.heap.size W0 w) : s.At w :=
  ⟨h.le, h.max, fun h0 => let ⟨b, off, ha, hc⟩ := h.at_ h0; ⟨b, off, ha, fun j hj => (hb.cell (p := ⟨b, off + j, none⟩) (by
    rcases Nat.lt_or_ge b W0.heap.size with h' | h'
    · exact h'
    · have := hc j hj; simp [World.cell?, Array.getElem?_eq_none h'] at this)).trans (hc j hj)⟩⟩

/-! ### insertion, plainly -/
/-- ahead of round i of the outer loop: A: the ordered head -/
structure InsOut (K : Nat → List UInt8) (seg A : List Nat) (i : Nat) : Prop where
  le : i ≤ seg.length
  perm : A.Perm (seg.take i)
  srt : Ord.Srt K A
/-- ahead of a round of the inner loop: q ++ r: the ordered head; t: the item; it goes ahead of r -/
structure InsIn (K : Nat → List UInt8) (seg : List Nat) (i t : Nat) (q r : List Nat) : Prop where
  lt : i < seg.length
  ht : seg[i]? = some t
  perm : (q ++ r).Perm (seg.take i)
  srt : Ord.Srt K (q ++ r)
  gt : ∀ x ∈ r, Ord.R K t x

theorem InsOut.start (K : Nat → List UInt8) (seg : List Nat) (h : 1 ≤ seg.length) : InsOut K seg (seg.take 1) 1 := by
  refine ⟨h, List.Perm.refl _, ?_⟩
  cases seg with
  | nil => simp at h
  | cons a r => simp [Ord.Srt]
theorem InsOut.length {K : Nat → List UInt8} {seg A : List Nat} {i : Nat} (h : InsOut K seg A i) : A.length = i := by
  have := h.perm.length_eq
  rw [List.length_take] at this
  have := h.le
  omega
theorem InsIn.length {K : Nat → List UInt8} {seg q r : List Nat} {i t : Nat} (h : InsIn K seg i t q r) : q.length + r.length = i := by
  have := h.perm.length_eq
  rw [List.length_take, List.length_append] at this
  have := h.lt
  omega
theorem InsOut.into {K : Nat → List UInt8} {seg A : List Nat} {i t : Nat} (h : InsOut K seg A i) (hi : i < seg.length) (ht : seg[i]? = some t) : InsIn K seg i t A [] :=
  ⟨hi, ht, by simpa using h.perm, by simpa using h.srt, by simp⟩
theorem InsIn.back {K : Nat → List UInt8} {seg q r : List Nat} {i t x : Nat} (h : InsIn K seg i t (q ++ [x]) r) (hl : Ord.cmp (K t) (K x) < 0) : InsIn K seg i t q (x :: r) := by
  have e : q ++ [x] ++ r = q ++ x :: r := by simp
  refine ⟨h.lt, h.ht, e ▸ h.perm, e ▸ h.srt, ?_⟩
  intro y hy
  rcases List.mem_cons.1 hy with e | hy
  · rw [e]; exact Or.inl hl
  · exact h.gt y hy
theorem InsIn.less {K : Nat → List UInt8} {seg q r : List Nat} {i t : Nat} (hinc : seg.Pairwise (· < ·)) (h : InsIn K seg i t q r) : ∀ x ∈ q ++ r, x < t := by
  intro x hx
  have hx' : x ∈ seg.take i := h.perm.subset hx
  have hs : seg = seg.take i ++ seg.drop i := (List.take_append_drop i seg).symm
  rw [hs, List.pairwise_append] at hinc
  refine hinc.2.2 x hx' t ?_
  rw [List.mem_iff_getElem?]
  exact ⟨0, by rw [List.getElem?_drop, Nat.add_zero]; exact h.ht⟩
theorem take_succ_perm {seg : List Nat} {i t : Nat} (ht : seg[i]? = some t) {A : List Nat} (h : A.Perm (seg.take i ++ [t])) : A.Perm (seg.take (i + 1)) := by
  rw [List.take_add_one, ht]; exact h
theorem InsIn.done {K : Nat → List UInt8} {seg q r : List Nat} {i t : Nat} (hinc : seg.Pairwise (· < ·)) (h : InsIn K seg i t q r) (hq : q = [] ∨ ∃ q' x, q = q' ++ [x] ∧ ¬ Ord.cmp (K t) (K x) < 0) :
    InsOut K seg (q ++ t :: r) (i + 1) := by
  have hlt := h.less hinc
  have h1 : ∀ x ∈ q, Ord.R K x t := by
    rcases hq with rfl | ⟨q', x, rfl, hx⟩
    · simp
    · exact Ord.before_of_last K (Ord.srt_left K h.srt) (Ord.R_of_not_less K (hlt x (by simp)) hx)
  refine ⟨h.lt, take_succ_perm h.ht ?_, Ord.srt_insert K h.srt h1 h.gt⟩
  have p1 : (q ++ t :: r).Perm (t :: (q ++ r)) := List.perm_middle
  have p2 : (t :: (q ++ r)).Perm (t :: seg.take i) := List.Perm.cons t h.perm
  have p3 : (t :: seg.take i).Perm (seg.take i ++ [t]) := by
    have := List.perm_append_comm (l₁ := [t]) (l₂ := seg.take i)
    simpa using this
  exact p1.trans (p2.trans p3)
end Go.Proofs.Qxb6500664a
