/-
  'codeclaw.SortIsOrderedPermutation': the states of its third and fourth loops.
-/
import Derived.Test.Qxb6500664aSorts
namespace Go.Proofs.Qxb6500664a
open Go.RowKit

theorem SeenSt.below {W w w' : World} {d : OD} {ob ib kb kr pr sn i : Nat} {p : List Nat} (h : SeenSt W w d ob ib kb kr pr sn p i) (hb : Below w.heap.size w w') : SeenSt W w' d ob ib kb kr pr sn p i :=
  ⟨h.st.below hb, h.hi, (hb.block sn (lt_of_block h.seen)).trans h.seen⟩

theorem made_marks (n : Nat) : madeCells #[.bool false] n = (marks n []).toArray := by
  apply Array.ext
  · simp [size_madeCells, marks]
  · intro j h1 h2
    simp [size_madeCells] at h1
    simp [madeCells, marks, Nat.mod_one]

theorem SeenSt.start {W w : World} {d : OD} {ob ib kb kr pr : Nat} {p : List Nat} (h : SortedSt W w d ob ib kb kr pr p) : SeenSt W (w.alloc (.cells (madeCells #[.bool false] d.pn) 4)) d ob ib kb kr pr w.heap.size p 0 :=
  ⟨h.below ((Below.refl _ _).alloc (Nat.le_refl _) _), h.ps.lt, by rw [made_marks]; show (w.heap.push _)[w.heap.size]? = _; simp⟩

theorem SortedSt.len {W w : World} {d : OD} {ob ib kb kr pr : Nat} {p : List Nat} (h : SortedSt W w d ob ib kb kr pr p) : p.length = d.pn := by rw [h.perm.length_eq, List.length_range]

theorem split_at {p : List Nat} {i : Nat} (hi : i < p.length) : ∃ t, p = p.take i ++ t :: p.drop (i + 1) ∧ p[i]? = some t := ⟨p[i], by rw [← List.drop_eq_getElem_cons hi, List.take_append_drop], List.getElem?_eq_getElem hi⟩

/-- what the round reads -/
theorem SeenSt.facts {W w : World} {d : OD} {ob ib kb kr pr sn i : Nat} {p : List Nat} (h : SeenSt W w d ob ib kb kr pr sn p i) (hi : i < d.pn) :
    ∃ t, t < d.pn ∧ p[i]? = some t ∧ p = p.take i ++ t :: p.drop (i + 1) ∧ w.cell? ⟨ib, i * 2, none⟩ = some (.slice (kOf d t).a (kOf d t).l.length (kOf d t).cap) ∧ w.cell? ⟨ib, i * 2 + 1, none⟩ = some (.int .i64 (t : Int)) ∧
      w.cell? ⟨kr, i, none⟩ = some (.slice (kOf d t).a (kOf d t).l.length (kOf d t).cap) ∧ w.cell? ⟨pr, i * 2, none⟩ = some (.slice (kOf d t).a (kOf d t).l.length (kOf d t).cap) ∧ w.cell? ⟨pr, i * 2 + 1, none⟩ = some (.slice (vOf d t).a (vOf d t).l.length (vOf d t).cap) ∧
      w.cell? ⟨sn, t, none⟩ = some (.bool false) ∧ w.frozen? ⟨sn, t, none⟩ = false := by
  have hl := h.st.len
  obtain ⟨t, ht, hg⟩ := split_at (p := p) (i := i) (by omega)
  have hlen : (p.take i).length = i := by simp; omega
  have htm : t < d.pn := by
    have : t ∈ p := by rw [ht]; simp
    exact List.mem_range.1 (h.st.perm.subset this)
  have hnd : p.Nodup := h.st.perm.nodup_iff.2 List.nodup_range
  have hnt : t ∉ p.take i := by
    rw [ht] at hnd
    have := (List.nodup_append.1 hnd).2.2
    intro hm
    exact this t hm t (by simp) rfl
  have a1 := h.st.it
  have a2 := h.st.ks
  have a3 := h.st.ps
  rw [ht] at a1 a2 a3
  obtain ⟨c1, c2⟩ := cells_row2 (n := i) (P := 0) (O := 0) a1 (by rw [hlen]; omega) rfl
  obtain ⟨c4, c5⟩ := cells_row3 (n := i) (P := 0) (O := 0) a3 (by rw [hlen]; omega) rfl
  have c3 := cell_row1 a2 hlen
  rw [Nat.zero_add] at c1 c2 c4 c5
  refine ⟨t, htm, hg, ht, c1, c2, c3, c4, c5, ?_, Joins.unfrozen_of_block h.seen t⟩
  rw [Joins.cell_of_block h.seen, List.getElem?_toArray, marks_get htm]
  simp [hnt]

theorem SeenSt.mark {W w : World} {d : OD} {ob ib kb kr pr sn i t : Nat} {p : List Nat} (h : SeenSt W w d ob ib kb kr pr sn p i) (ht : p[i]? = some t) : SeenSt W (w.setCell ⟨sn, t, none⟩ (.bool true)) d ob ib kb kr pr sn p (i + 1) := by
  have hb := h.st.blk
  have q0 := hb.lo
  have q1 := hb.o1
  have q2 := hb.o2
  have q3 := hb.o3
  have q4 := hb.o4
  have q5 := h.hi
  have g := grown_set (a := w) (g := sn) (i := t) (.bool true)
  refine ⟨⟨hb.grown g (by omega) (by omega) (by omega), h.st.perm, h.st.srt, h.st.it.other g (by omega), h.st.ks.other g (by omega), h.st.ps.other g (by omega)⟩, h.hi, ?_⟩
  rw [Joins.block_setCell h.seen, List.setIfInBounds_toArray, marks_set, List.take_add_one, ht]
  rfl

/-- the neighbour ahead of place m + 1 -/
theorem SeenSt.prev {W w : World} {d : OD} {ob ib kb kr pr sn m t : Nat} {p : List Nat} {j : Nat} (h : SeenSt W w d ob ib kb kr pr sn p j) (hi : m + 1 < d.pn) (ht : p[m + 1]? = some t) :
    ∃ s, s < d.pn ∧ w.cell? ⟨ib, m * 2, none⟩ = some (.slice (kOf d s).a (kOf d s).l.length (kOf d s).cap) ∧ w.cell? ⟨ib, m * 2 + 1, none⟩ = some (.int .i64 (s : Int)) ∧ Ord.R (keysOf (kOf d)) s t := by
  have hl := h.st.len
  obtain ⟨s, hs, hg⟩ := split_at (p := p) (i := m) (by omega)
  have hlen : (p.take m).length = m := by simp; omega
  have a1 := h.st.it
  have hsrt := h.st.srt
  have hR : Ord.R (keysOf (kOf d)) s t := by
    have h1 := (List.pairwise_iff_getElem.1 hsrt) m (m + 1) (by omega) (by omega) (by omega)
    rw [List.getElem?_eq_getElem (by omega)] at hg ht
    rw [← Option.some.inj hg, ← Option.some.inj ht]
    exact h1
  have hsm : s < d.pn := by
    have : s ∈ p := by rw [hs]; simp
    exact List.mem_range.1 (h.st.perm.subset this)
  rw [hs] at a1
  obtain ⟨c1, c2⟩ := cells_row2 (n := m) (P := 0) (O := 0) a1 (by rw [hlen]; omega) rfl
  rw [Nat.zero_add] at c1 c2
  exact ⟨s, hsm, c1, c2, hR⟩
theorem cell_other {w w' : World} {g : Nat} {q : Addr} {v : Value} (hg : w.grownBy w' (some g)) (hne : q.block ≠ g) (h : w.cell? q = some v) : w'.cell? q = some v := by
  have hb := hg.block q.block (cell_lt h) (fun e => hne (Option.some.inj e))
  unfold World.cell? at h ⊢
  rw [hb]
  exact h

/-- what the check of two neighbours comes to -/
theorem R_cases {K : Nat → List UInt8} {s t : Nat} (h : Ord.R K s t) : Ord.cmp (K s) (K t) = -1 ∨ (Ord.cmp (K s) (K t) = 0 ∧ s < t) := by
  rcases h with h | ⟨h1, h2⟩
  · rcases Ord.cmp_range (K s) (K t) with e | e | e
    · exact Or.inl e
    · omega
    · omega
  · exact Or.inr ⟨by rw [h1, Ord.cmp_self], h2⟩
theorem SortedSt.tag {W w : World} {d : OD} {ob ib kb kr pr : Nat} {p : List Nat} (h : SortedSt W w d ob ib kb kr pr p) {i : Nat} (hi : i < d.pn) : ∃ t, p.getD i 0 = t ∧ t < d.pn ∧ p = p.take i ++ t :: p.drop (i + 1) ∧ (p.take i).length = i := by
  have hl := h.len
  obtain ⟨t, ht, hg⟩ := split_at (p := p) (i := i) (by omega)
  refine ⟨t, by rw [List.getD_eq_getElem?_getD, hg]; rfl, ?_, ht, by simp; omega⟩
  have : t ∈ p := by rw [ht]; simp
  exact List.mem_range.1 (h.perm.subset this)

/-- the border search over the sorted keys -/
theorem SortedSt.search {W w : World} {d : OD} {ob ib kb kr pr : Nat} {p : List Nat} (h : SortedSt W w d ob ib kb kr pr p) (hK : ∀ t, t < d.pn → (kOf d t).At W) (hD : d.data.At W) (hn : d.pn ≤ 65536) :
    Calls Try.prog 15 #[.int .i64 (d.pn : Int), .func (.func 16) #[] #[.pointer (some ⟨kb, 0, none⟩), .pointer (some ⟨ob, 0, none⟩)]] w (SearchPost (fun i => afterB (kOf d) d.data (p.getD i 0)) d.pn w) := by
  refine search_any w #[.pointer (some ⟨kb, 0, none⟩), .pointer (some ⟨ob, 0, none⟩)] _ d.pn hn ?_ ?_
  · intro i j hij hj hf
    rcases Nat.eq_or_lt_of_le hij with e | hlt
    · subst e; exact hf
    · have hl := h.len
      have hR := (List.pairwise_iff_getElem.1 h.srt) i j (by omega) (by omega) hlt
      have ei : p.getD i 0 = p[i] := by rw [List.getD_eq_getElem?_getD, List.getElem?_eq_getElem (by omega)]; rfl
      have ej : p.getD j 0 = p[j] := by rw [List.getD_eq_getElem?_getD, List.getElem?_eq_getElem (by omega)]; rfl
      simp only [afterB, ei, ej, decide_eq_true_eq] at hf ⊢
      rcases hR with hR | ⟨hR, _⟩
      · have hR' : Ord.cmp (kOf d p[i]).l (kOf d p[j]).l < 0 := hR
        apply Decidable.byContradiction
        intro hneg
        have := Ord.cmp_trans hR' (show Ord.cmp (kOf d p[j]).l d.data.l < 0 by omega)
        omega
      · have hR' : (kOf d p[i]).l = (kOf d p[j]).l := hR
        rw [← hR']
        exact hf
  · intro i m hi
    obtain ⟨t, ht, htn, hp, hlen⟩ := h.tag hi
    rw [ht]
    have hks := h.ks
    rw [hp] at hks
    exact after_any (w.drewN m) (kOf d) kb kr ob d.pn i (p.take i) (p.drop (i + 1)) t d.data hlen hi h.blk.kcell h.blk.ocell.1 ⟨hks.blk⟩ (At_drewN (key_in (hK t htn) h.blk.bel) m) (At_drewN (key_in hD h.blk.bel) m)
end Go.Proofs.Qxb6500664a
