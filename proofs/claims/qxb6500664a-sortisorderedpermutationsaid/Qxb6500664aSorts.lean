/-
  'codec.SortBytes' (11), 'codec.SortPairs' (12), and the state behind the three sorts.
-/
import Derived.Test.Qxb6500664aMainSt
import Derived.Test.Qxb6500664aSortI
import Derived.Test.Qxb6500664aSortB
import Derived.Test.Qxb6500664aSortP
namespace Go.Proofs.Qxb6500664a
open Go.RowKit

set_option maxHeartbeats 400000 in
theorem sortBytes_any (W0 w : World) (K : Nat → BSl) (g n : Nat) (p0 : List Nat) (hp : p0.length = n) (hinc : p0.Pairwise (· < ·)) (hK : ∀ t ∈ p0, (K t).At W0) (hn : n ≤ 65536)
    (hB0 : W0.heap.size ≤ g) (hbel : Below W0.heap.size W0 w) (hrow : RowAt 27 (ev1 K) w g p0) :
    Calls Try.prog 11 #[.slice (some ⟨g, 0, none⟩) n n] w (SortPost 27 (ev1 K) K w g p0) := by
  go_enter Try.func11, Try.ntmps11
  go_wp2_with fail
  refine (sort_bytes W0 w K g n p0 hp hinc hK hn hB0 hbel hrow).mono ?_
  rintro e w1 ⟨rfl, H⟩
  go_wp2_with fail
  go_end0
  exact ⟨rfl, H⟩

set_option maxHeartbeats 400000 in
theorem sortPairs_any (W0 w : World) (K V : Nat → BSl) (g n : Nat) (p0 : List Nat) (hp : p0.length = n) (hinc : p0.Pairwise (· < ·)) (hK : ∀ t ∈ p0, (K t).At W0) (hn : n ≤ 65536)
    (hB0 : W0.heap.size ≤ g) (hbel : Below W0.heap.size W0 w) (hrow : RowAt 37 (ev3 K V) w g p0) :
    Calls Try.prog 12 #[.slice (some ⟨g, 0, none⟩) n n] w (SortPost 37 (ev3 K V) K w g p0) := by
  go_enter Try.func12, Try.ntmps12
  go_wp2_with fail
  refine (sort_pairs W0 w K V g n p0 hp hinc hK hn hB0 hbel hrow).mono ?_
  rintro e w1 ⟨rfl, H⟩
  go_wp2_with fail
  go_end0
  exact ⟨rfl, H⟩

theorem FillSt.full {W w : World} {d : OD} {ob ib kb kr pr : Nat} (h : FillSt W w d ob ib kb kr pr d.pn) :
    RowAt 39 (ev2 (kOf d)) w ib (List.range d.pn) ∧ RowAt 27 (ev1 (kOf d)) w kr (List.range d.pn) ∧ RowAt 37 (ev3 (kOf d) (vOf d)) w pr (List.range d.pn) := by
  obtain ⟨Z1, a1, l1⟩ := h.it
  obtain ⟨Z2, a2, l2⟩ := h.ks
  obtain ⟨Z3, a3, l3⟩ := h.ps
  rw [Nat.sub_self, Nat.zero_mul] at l1 l2 l3
  obtain rfl := List.eq_nil_of_length_eq_zero l1
  obtain rfl := List.eq_nil_of_length_eq_zero l2
  obtain rfl := List.eq_nil_of_length_eq_zero l3
  exact ⟨a1.row, a2.row, a3.row⟩

/-- behind the first sort -/
structure St1 (W w : World) (d : OD) (ob ib kb kr pr : Nat) (p : List Nat) : Prop where
  blk : Blk W w d ob ib kb kr pr
  perm : p.Perm (List.range d.pn)
  srt : Ord.Srt (keysOf (kOf d)) p
  it : RowAt 39 (ev2 (kOf d)) w ib p
  ks : RowAt 27 (ev1 (kOf d)) w kr (List.range d.pn)
  ps : RowAt 37 (ev3 (kOf d) (vOf d)) w pr (List.range d.pn)
/-- behind the second -/
structure St2 (W w : World) (d : OD) (ob ib kb kr pr : Nat) (p : List Nat) : Prop where
  blk : Blk W w d ob ib kb kr pr
  perm : p.Perm (List.range d.pn)
  srt : Ord.Srt (keysOf (kOf d)) p
  it : RowAt 39 (ev2 (kOf d)) w ib p
  ks : RowAt 27 (ev1 (kOf d)) w kr p
  ps : RowAt 37 (ev3 (kOf d) (vOf d)) w pr (List.range d.pn)

theorem FillSt.sort1 {W w w' : World} {d : OD} {ob ib kb kr pr : Nat} {e : Ending} (h : FillSt W w d ob ib kb kr pr d.pn) (hp : SortPost 39 (ev2 (kOf d)) (kOf d) w ib (List.range d.pn) e w') : e = .returned (.tuple #[]) ∧ ∃ p, St1 W w' d ob ib kb kr pr p := by
  obtain ⟨he, p, p1, p2, p3, p4⟩ := hp
  obtain ⟨f1, f2, f3⟩ := h.full
  have := h.blk.lo
  have := h.blk.o1
  have := h.blk.o2
  have := h.blk.o3
  have := h.blk.o4
  exact ⟨he, p, h.blk.grown p4 (by omega) (by omega) (by omega), p1, p2, p3, f2.other p4 (by omega), f3.other p4 (by omega)⟩
theorem St1.sort2 {W w w' : World} {d : OD} {ob ib kb kr pr : Nat} {p : List Nat} {e : Ending} (h : St1 W w d ob ib kb kr pr p) (hp : SortPost 27 (ev1 (kOf d)) (kOf d) w kr (List.range d.pn) e w') : e = .returned (.tuple #[]) ∧ St2 W w' d ob ib kb kr pr p := by
  obtain ⟨he, q, p1, p2, p3, p4⟩ := hp
  obtain rfl := Ord.srt_unique _ h.srt p2 (h.perm.trans p1.symm)
  have := h.blk.lo
  have := h.blk.o1
  have := h.blk.o2
  have := h.blk.o3
  have := h.blk.o4
  exact ⟨he, h.blk.grown p4 (by omega) (by omega) (by omega), p1, p2, h.it.other p4 (by omega), p3, h.ps.other p4 (by omega)⟩
theorem St2.sort3 {W w w' : World} {d : OD} {ob ib kb kr pr : Nat} {p : List Nat} {e : Ending} (h : St2 W w d ob ib kb kr pr p) (hp : SortPost 37 (ev3 (kOf d) (vOf d)) (kOf d) w pr (List.range d.pn) e w') : e = .returned (.tuple #[]) ∧ SortedSt W w' d ob ib kb kr pr p := by
  obtain ⟨he, q, p1, p2, p3, p4⟩ := hp
  obtain rfl := Ord.srt_unique _ h.srt p2 (h.perm.trans p1.symm)
  have := h.blk.lo
  have := h.blk.o1
  have := h.blk.o2
  have := h.blk.o3
  have := h.blk.o4
  exact ⟨he, h.blk.grown p4 (by omega) (by omega) (by omega), p1, p2, h.it.other p4 (by omega), h.ks.other p4 (by omega), p3⟩

theorem Blk.kcell {W w : World} {d : OD} {ob ib kb kr pr : Nat} (h : Blk W w d ob ib kb kr pr) : w.cell? ⟨kb, 0, none⟩ = some (.slice (some ⟨kr, 0, none⟩) d.pn d.pn) := by simp [World.cell?, h.kv]
theorem Blk.ocell {W w : World} {d : OD} {ob ib kb kr pr : Nat} (h : Blk W w d ob ib kb kr pr) : w.cell? ⟨ob, 3, none⟩ = some (.slice d.data.a d.data.l.length d.data.cap) ∧ w.cell? ⟨ob, 7, none⟩ = some (.slice d.pa d.pn d.pcap) := by
  constructor <;> simp [World.cell?, h.op, opCells]

/-! ### the first sort from the filled rows, as calls -/
theorem call1 {W w : World} {d : OD} {ob ib kb kr pr : Nat} (h : FillSt W w d ob ib kb kr pr d.pn) (hK : ∀ t, t < d.pn → (kOf d t).At W) (hn : d.pn ≤ 65536) :
    Calls Try.prog 8 #[.slice (some ⟨ib, 0, none⟩) d.pn d.pn, .func (.func 9) #[] #[]] w fun e w' => e = .returned (.tuple #[]) ∧ ∃ p, St1 W w' d ob ib kb kr pr p :=
  (sort_items W w (kOf d) ib d.pn (List.range d.pn) (by simp) List.pairwise_lt_range (fun t ht => hK t (List.mem_range.1 ht)) hn (by have := h.blk.lo; have := h.blk.o1; omega) h.blk.bel h.full.1).mono fun _ _ hp => h.sort1 hp
theorem call2 {W w : World} {d : OD} {ob ib kb kr pr : Nat} {p : List Nat} (h : St1 W w d ob ib kb kr pr p) (hK : ∀ t, t < d.pn → (kOf d t).At W) (hn : d.pn ≤ 65536) :
    Calls Try.prog 11 #[.slice (some ⟨kr, 0, none⟩) d.pn d.pn] w fun e w' => e = .returned (.tuple #[]) ∧ St2 W w' d ob ib kb kr pr p :=
  (sortBytes_any W w (kOf d) kr d.pn (List.range d.pn) (by simp) List.pairwise_lt_range (fun t ht => hK t (List.mem_range.1 ht)) hn (by have := h.blk.lo; have := h.blk.o1; have := h.blk.o2; omega) h.blk.bel h.ks).mono fun _ _ hp => h.sort2 hp
theorem call3 {W w : World} {d : OD} {ob ib kb kr pr : Nat} {p : List Nat} (h : St2 W w d ob ib kb kr pr p) (hK : ∀ t, t < d.pn → (kOf d t).At W) (hn : d.pn ≤ 65536) :
    Calls Try.prog 12 #[.slice (some ⟨pr, 0, none⟩) d.pn d.pn] w fun e w' => e = .returned (.tuple #[]) ∧ SortedSt W w' d ob ib kb kr pr p :=
  (sortPairs_any W w (kOf d) (vOf d) pr d.pn (List.range d.pn) (by simp) List.pairwise_lt_range (fun t ht => hK t (List.mem_range.1 ht)) hn (by have := h.blk.lo; have := h.blk.o1; have := h.blk.o2; have := h.blk.o3; have := h.blk.o4; omega) h.blk.bel h.ps).mono fun _ _ hp => h.sort3 hp

/-! ### the marks -/
/-- the marks of the tags that have been met -/
def marks (n : Nat) (q : List Nat) : List Value := (List.range n).map fun t => .bool (decide (t ∈ q))
theorem marks_get {n : Nat} {q : List Nat} {t : Nat} (h : t < n) : (marks n q)[t]? = some (.bool (decide (t ∈ q))) := by simp [marks, h]
theorem marks_set {n : Nat} {q : List Nat} {t : Nat} : (marks n q).set t (.bool true) = marks n (q ++ [t]) := by
  apply List.ext_getElem?
  intro j
  rw [List.getElem?_set]
  by_cases hj : j < n
  · by_cases e : t = j
    · subst e
      simp [marks, hj]
    · rw [if_neg e, marks_get hj, marks_get hj]
      congr 2
      simp [Ne.symm e]
  · have h1 : (marks n (q ++ [t]))[j]? = none := by simp [marks]; omega
    have h2 : (marks n q)[j]? = none := by simp [marks]; omega
    rw [h1, h2]
    by_cases e : t = j
    · subst e; simp [marks]; omega
    · rw [if_neg e]

/-- ahead of round i of the third loop -/
structure SeenSt (W w : World) (d : OD) (ob ib kb kr pr sn : Nat) (p : List Nat) (i : Nat) : Prop where
  st : SortedSt W w d ob ib kb kr pr p
  hi : pr < sn
  seen : w.heap[sn]? = some (.cells (marks d.pn (p.take i)).toArray 4 (0, 0))

theorem Try.info4 : (Try.prog.info? 4).map (fun i => (i.zero, i.size, i.bytes)) = some (some (.bool false), 1, 1) := by kernel_rfl
theorem make_bools (n : Nat) (hn : n ≤ 65536) (w : World) : (Instr.makeSlice 45 (.int .i64 (n : Int)) (.int .i64 (n : Int))).run Try.prog w = .ok (.slice (some ⟨w.heap.size, 0, none⟩) n n) (w.alloc (.cells (madeCells #[.bool false] n) 4)) := by
  obtain ⟨i0, hi, hz0, hz1, hz2⟩ := info_parts Try.info4
  have := run_make (P := Try.prog) w 45 4 i0 _ Try.underlying45 hi hz0 .i64 .i64 (n : Int) (n : Int) (by omega) (Int.le_refl _) (by rw [hz2]; omega) (by omega)
  rw [hz1, Int.toNat_natCast, Nat.mul_one] at this
  exact this
end Go.Proofs.Qxb6500664a
