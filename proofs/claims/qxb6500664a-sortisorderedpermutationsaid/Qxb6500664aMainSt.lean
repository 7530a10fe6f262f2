/-
  'codeclaw.SortIsOrderedPermutation': the states of its rounds.
-/
import Derived.Test.Qxb6500664aSortSt
import Derived.Test.Qxb6500664aSearch
import Derived.Test.Qxb6500664aSmall
namespace Go.Proofs.Qxb6500664a
open Go.RowKit

/-- the cells of one step -/
def opCells (d : OD) : Array Value := #[.int .u8 d.kind, .int .u8 d.ty, .int .u64 d.num, .slice d.data.a d.data.l.length d.data.cap, .int .u8 d.rkind, .slice d.key.a d.key.l.length d.key.cap, .slice d.fa d.fn d.fcap, .slice d.pa d.pn d.pcap]
def kOf (d : OD) (t : Nat) : BSl := (d.P t).key
def vOf (d : OD) (t : Nat) : BSl := (d.P t).val
def z2 : Array Value := #[.slice none 0 0, .int .i64 0]
def z1 : Array Value := #[.slice none 0 0]
def z3 : Array Value := #[.slice none 0 0, .slice none 0 0]

/-- the variables of one round -/
structure Blk (W w : World) (d : OD) (ob ib kb kr pr : Nat) : Prop where
  bel : Below W.heap.size W w
  lo : W.heap.size ≤ ob
  o1 : ob < ib
  o2 : ib < kr
  o3 : kr < kb
  o4 : kb < pr
  op : w.heap[ob]? = some (.cells (opCells d) 33 (0, 0))
  kv : w.heap[kb]? = some (.cells #[.slice (some ⟨kr, 0, none⟩) d.pn d.pn] 35 (0, 0))

theorem below_on {B : Nat} {w a b : World} (h : Below B w a) (hB : B ≤ a.heap.size) (h2 : Below a.heap.size a b) : Below B w b :=
  ⟨h2.os.trans h.os, h2.tape.trans h.tape, h2.output.trans h.output, Nat.le_trans h.size h2.size, fun k hk => (h2.block k (by omega)).trans (h.block k hk)⟩

theorem lt_of_block {w : World} {g : Nat} {o : Obj} (h : w.heap[g]? = some o) : g < w.heap.size := by
  rcases Nat.lt_or_ge g w.heap.size with h' | h'
  · exact h'
  · rw [Array.getElem?_eq_none h'] at h; simp at h

theorem cell_lt {w : World} {p : Addr} {v : Value} (h : w.cell? p = some v) : p.block < w.heap.size := by
  rcases Nat.lt_or_ge p.block w.heap.size with h' | h'
  · exact h'
  · simp [World.cell?, Array.getElem?_eq_none h'] at h

theorem Blk.grown {W w w' : World} {d : OD} {ob ib kb kr pr g : Nat} (h : Blk W w d ob ib kb kr pr) (hg : w.grownBy w' (some g)) (hl : W.heap.size ≤ g) (h1 : ob ≠ g) (h2 : kb ≠ g) : Blk W w' d ob ib kb kr pr :=
  ⟨env_grown h.bel hl hg, h.lo, h.o1, h.o2, h.o3, h.o4, (hg.block ob (lt_of_block h.op) (fun e => h1 (Option.some.inj e))).trans h.op, (hg.block kb (lt_of_block h.kv) (fun e => h2 (Option.some.inj e))).trans h.kv⟩
theorem Blk.below {W w w' : World} {d : OD} {ob ib kb kr pr : Nat} (h : Blk W w d ob ib kb kr pr) (hb : Below w.heap.size w w') : Blk W w' d ob ib kb kr pr :=
  ⟨below_on h.bel h.bel.size hb, h.lo, h.o1, h.o2, h.o3, h.o4, (hb.block ob (lt_of_block h.op)).trans h.op, (hb.block kb (lt_of_block h.kv)).trans h.kv⟩

theorem RowPart.other {ty : TypeId} {ev : Nat → List Value} {w w' : World} {g g' : Nat} {A : List Nat} {Z : List Value} (h : RowPart ty ev w g A Z) (hb : w.grownBy w' (some g')) (hne : g ≠ g') : RowPart ty ev w' g A Z :=
  ⟨(hb.block g h.lt (fun e => hne (Option.some.inj e))).trans h.blk⟩

/-- the rows are filled up to i -/
structure FillSt (W w : World) (d : OD) (ob ib kb kr pr i : Nat) : Prop where
  blk : Blk W w d ob ib kb kr pr
  it : ∃ Z, RowPart 39 (ev2 (kOf d)) w ib (List.range i) Z ∧ Z.length = (d.pn - i) * 2
  ks : ∃ Z, RowPart 27 (ev1 (kOf d)) w kr (List.range i) Z ∧ Z.length = (d.pn - i) * 1
  ps : ∃ Z, RowPart 37 (ev3 (kOf d) (vOf d)) w pr (List.range i) Z ∧ Z.length = (d.pn - i) * 2

theorem FillSt.below {W w w' : World} {d : OD} {ob ib kb kr pr i : Nat} (h : FillSt W w d ob ib kb kr pr i) (hb : Below w.heap.size w w') : FillSt W w' d ob ib kb kr pr i :=
  ⟨h.blk.below hb, let ⟨Z, a, b⟩ := h.it; ⟨Z, a.below hb, b⟩, let ⟨Z, a, b⟩ := h.ks; ⟨Z, a.below hb, b⟩, let ⟨Z, a, b⟩ := h.ps; ⟨Z, a.below hb, b⟩⟩

theorem push5 (h : Array Obj) (a b c d e : Obj) : (((((h.push a).push b).push c).push d).push e)[h.size]? = some a ∧ (((((h.push a).push b).push c).push d).push e)[h.size + 1]? = some b ∧
    (((((h.push a).push b).push c).push d).push e)[h.size + 2]? = some c ∧ (((((h.push a).push b).push c).push d).push e)[h.size + 3]? = some d ∧ (((((h.push a).push b).push c).push d).push e)[h.size + 4]? = some e := by
  refine ⟨?_, ?_, ?_, ?_, ?_⟩
  · rw [Array.getElem?_push, if_neg (by simp only [Array.size_push]; omega), Array.getElem?_push, if_neg (by simp only [Array.size_push]; omega), Array.getElem?_push, if_neg (by simp only [Array.size_push]; omega), Array.getElem?_push, if_neg (by simp only [Array.size_push]; omega), Array.getElem?_push, if_pos rfl]
  · rw [Array.getElem?_push, if_neg (by simp only [Array.size_push]; omega), Array.getElem?_push, if_neg (by simp only [Array.size_push]; omega), Array.getElem?_push, if_neg (by simp only [Array.size_push]; omega), Array.getElem?_push, if_pos (by simp)]
  · rw [Array.getElem?_push, if_neg (by simp only [Array.size_push]; omega), Array.getElem?_push, if_neg (by simp only [Array.size_push]; omega), Array.getElem?_push, if_pos (by simp)]
  · rw [Array.getElem?_push, if_neg (by simp only [Array.size_push]; omega), Array.getElem?_push, if_pos (by simp)]
  · rw [Array.getElem?_push, if_pos (by simp)]

/-- behind the makes -/
theorem FillSt.start {W wr : World} {d : OD} (hb : Below W.heap.size W wr) :
    FillSt W (((((wr.alloc (.cells (opCells d) 33)).alloc (.cells (madeCells z2 (d.pn * 2)) 39)).alloc (.cells (madeCells z1 d.pn) 27)).alloc (.cells #[.slice (some ⟨wr.heap.size + 1 + 1, 0, none⟩) d.pn d.pn] 35)).alloc (.cells (madeCells z3 (d.pn * 2)) 37))
      d wr.heap.size (wr.heap.size + 1) (wr.heap.size + 1 + 1 + 1) (wr.heap.size + 1 + 1) (wr.heap.size + 1 + 1 + 1 + 1) 0 := by
  have hs := hb.size
  refine ⟨⟨?_, hs, by omega, by omega, by omega, by omega, ?_, ?_⟩, ⟨(madeCells z2 (d.pn * 2)).toList, ⟨?_⟩, by simp [size_madeCells]⟩, ⟨(madeCells z1 d.pn).toList, ⟨?_⟩, by simp [size_madeCells]⟩, ⟨(madeCells z3 (d.pn * 2)).toList, ⟨?_⟩, by simp [size_madeCells]⟩⟩
  · exact ((((hb.alloc hs _).alloc (by simp; omega) _).alloc (by simp; omega) _).alloc (by simp; omega) _).alloc (by simp; omega) _
  · exact (push5 wr.heap _ _ _ _ _).1
  · exact (push5 wr.heap _ _ _ _ _).2.2.2.1
  · exact (push5 wr.heap _ _ _ _ _).2.1
  · exact (push5 wr.heap _ _ _ _ _).2.2.1
  · exact (push5 wr.heap _ _ _ _ _).2.2.2.2

/-- the places that are written next -/
theorem FillSt.places {W w : World} {d : OD} {ob ib kb kr pr i : Nat} (h : FillSt W w d ob ib kb kr pr i) (hi : i < d.pn) :
    (∃ v, w.cell? ⟨ib, i * 2, none⟩ = some v) ∧ (∃ v, w.cell? ⟨ib, i * 2 + 1, none⟩ = some v) ∧ (∃ v, w.cell? ⟨kr, i, none⟩ = some v) ∧ (∃ v, w.cell? ⟨pr, i * 2, none⟩ = some v) ∧ (∃ v, w.cell? ⟨pr, i * 2 + 1, none⟩ = some v) ∧
      (∀ j, w.frozen? ⟨ib, j, none⟩ = false) ∧ (∀ j, w.frozen? ⟨kr, j, none⟩ = false) ∧ (∀ j, w.frozen? ⟨pr, j, none⟩ = false) ∧ w.cell? ⟨kb, 0, none⟩ = some (.slice (some ⟨kr, 0, none⟩) d.pn d.pn) := by
  obtain ⟨Z1, a1, l1⟩ := h.it
  obtain ⟨Z2, a2, l2⟩ := h.ks
  obtain ⟨Z3, a3, l3⟩ := h.ps
  have c1 := a1.cell (ev2_len (kOf d))
  have c2 := a2.cell (ev1_len (kOf d))
  have c3 := a3.cell (ev3_len (kOf d) (vOf d))
  simp only [List.length_range] at c1 c2 c3
  have e : ∀ (Z : List Value) (c : Nat), c < Z.length → ∃ v, Z[c]? = some v := fun Z c hc => ⟨Z[c], List.getElem?_eq_getElem hc⟩
  refine ⟨?_, ?_, ?_, ?_, ?_, fun j => a1.free j, fun j => a2.free j, fun j => a3.free j, by simp [World.cell?, h.blk.kv]⟩
  · obtain ⟨v, hv⟩ := e Z1 0 (by omega); exact ⟨v, (c1 0).trans hv⟩
  · obtain ⟨v, hv⟩ := e Z1 1 (by omega); exact ⟨v, (c1 1).trans hv⟩
  · obtain ⟨v, hv⟩ := e Z2 0 (by omega); exact ⟨v, by have := (c2 0).trans hv; rw [Nat.mul_one] at this; exact this⟩
  · obtain ⟨v, hv⟩ := e Z3 0 (by omega); exact ⟨v, (c3 0).trans hv⟩
  · obtain ⟨v, hv⟩ := e Z3 1 (by omega); exact ⟨v, (c3 1).trans hv⟩

/-- one element into each row -/
theorem FillSt.step {W w : World} {d : OD} {ob ib kb kr pr i : Nat} (h : FillSt W w d ob ib kb kr pr i) (hi : i < d.pn) :
    FillSt W (((((w.setCell ⟨ib, i * 2, none⟩ (.slice (kOf d i).a (kOf d i).l.length (kOf d i).cap)).setCell ⟨ib, i * 2 + 1, none⟩ (.int .i64 (i : Int))).setCell ⟨kr, i, none⟩ (.slice (kOf d i).a (kOf d i).l.length (kOf d i).cap)).setCell ⟨pr, i * 2, none⟩ (.slice (kOf d i).a (kOf d i).l.length (kOf d i).cap)).setCell ⟨pr, i * 2 + 1, none⟩ (.slice (vOf d i).a (vOf d i).l.length (vOf d i).cap))
      d ob ib kb kr pr (i + 1) := by
  obtain ⟨Z1, a1, l1⟩ := h.it
  obtain ⟨Z2, a2, l2⟩ := h.ks
  obtain ⟨Z3, a3, l3⟩ := h.ps
  have hb := h.blk
  have q1 := hb.o1
  have q2 := hb.o2
  have q3 := hb.o3
  have q4 := hb.o4
  have q0 := hb.lo
  obtain ⟨x1, y1, Y1, rfl⟩ : ∃ x y Y, Z1 = x :: y :: Y := by
    match Z1, l1 with
    | [], l => simp at l; omega
    | [_], l => simp at l; omega
    | x :: y :: Y, _ => exact ⟨x, y, Y, rfl⟩
  obtain ⟨x2, Y2, rfl⟩ : ∃ x Y, Z2 = x :: Y := by
    match Z2, l2 with
    | [], l => simp at l; omega
    | x :: Y, _ => exact ⟨x, Y, rfl⟩
  obtain ⟨x3, y3, Y3, rfl⟩ : ∃ x y Y, Z3 = x :: y :: Y := by
    match Z3, l3 with
    | [], l => simp at l; omega
    | [_], l => simp at l; omega
    | x :: y :: Y, _ => exact ⟨x, y, Y, rfl⟩
  simp only [List.length_cons] at l1 l2 l3
  have g1 := grown_set2 (a := w) (b := w) (g := ib) (i := i * 2) (j := i * 2 + 1) (v := .slice (kOf d i).a (kOf d i).l.length (kOf d i).cap) (u := .int .i64 (i : Int)) (grown_refl _ _)
  have r1 := part_set2 (ev2_len (kOf d)) (t := i) (n := i) (P := 0) (O := 0) rfl a1 (by simp) rfl
  rw [Nat.zero_add] at r1
  generalize (w.setCell ⟨ib, i * 2, none⟩ (.slice (kOf d i).a (kOf d i).l.length (kOf d i).cap)).setCell ⟨ib, i * 2 + 1, none⟩ (.int .i64 (i : Int)) = w1 at *
  have hb1 := hb.grown g1 (by omega) (by omega) (by omega)
  have a2' := a2.other g1 (by omega)
  have a3' := a3.other g1 (by omega)
  have g2 := grown_set (a := w1) (g := kr) (i := i) (.slice (kOf d i).a (kOf d i).l.length (kOf d i).cap)
  have r2 := part_set1 (ev1_len (kOf d)) (t := i) (n := i) (P := 0) (O := 0) rfl a2' (by simp) rfl
  rw [Nat.zero_add] at r2
  generalize w1.setCell ⟨kr, i, none⟩ (.slice (kOf d i).a (kOf d i).l.length (kOf d i).cap) = w2 at *
  have hb2 := hb1.grown g2 (by omega) (by omega) (by omega)
  have r1' := r1.other g2 (by omega)
  have a3'' := a3'.other g2 (by omega)
  have g3 := grown_set2 (a := w2) (b := w2) (g := pr) (i := i * 2) (j := i * 2 + 1) (v := .slice (kOf d i).a (kOf d i).l.length (kOf d i).cap) (u := .slice (vOf d i).a (vOf d i).l.length (vOf d i).cap) (grown_refl _ _)
  have r3 := part_set2 (ev3_len (kOf d) (vOf d)) (t := i) (n := i) (P := 0) (O := 0) rfl a3'' (by simp) rfl
  rw [Nat.zero_add] at r3
  generalize (w2.setCell ⟨pr, i * 2, none⟩ (.slice (kOf d i).a (kOf d i).l.length (kOf d i).cap)).setCell ⟨pr, i * 2 + 1, none⟩ (.slice (vOf d i).a (vOf d i).l.length (vOf d i).cap) = w3 at *
  exact ⟨hb2.grown g3 (by omega) (by omega) (by omega), ⟨Y1, (r1'.other g3 (by omega)).castA List.range_succ.symm rfl, by omega⟩, ⟨Y2, (r2.other g3 (by omega)).castA List.range_succ.symm rfl, by omega⟩, ⟨Y3, r3.castA List.range_succ.symm rfl, by omega⟩⟩

/-- behind the three sorts -/
structure SortedSt (W w : World) (d : OD) (ob ib kb kr pr : Nat) (p : List Nat) : Prop where
  blk : Blk W w d ob ib kb kr pr
  perm : p.Perm (List.range d.pn)
  srt : Ord.Srt (keysOf (kOf d)) p
  it : RowAt 39 (ev2 (kOf d)) w ib p
  ks : RowAt 27 (ev1 (kOf d)) w kr p
  ps : RowAt 37 (ev3 (kOf d) (vOf d)) w pr p

theorem SortedSt.below {W w w' : World} {d : OD} {ob ib kb kr pr : Nat} {p : List Nat} (h : SortedSt W w d ob ib kb kr pr p) (hb : Below w.heap.size w w') : SortedSt W w' d ob ib kb kr pr p :=
  ⟨h.blk.below hb, h.perm, h.srt, h.it.below hb, h.ks.below hb, h.ps.below hb⟩
end Go.Proofs.Qxb6500664a
