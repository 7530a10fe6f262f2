/-
  Rectangles: their number, their bounds, their slice.
-/
import Derived.Test.Qxb6500653aTwo
namespace Go.Proofs.Qxb6500653a
open Go.RowKit

theorem cellRc_len (S : Sh) (V : Vw) (a : Ar) (i k : Nat) : (cellRc S V a i k).length ≤ 1 := by unfold cellRc; split <;> simp
theorem innRc_len2 (S : Sh) (V : Vw) (a : Ar) (i : Nat) : (innRc S V a i 2).length ≤ 2 := by
  have h1 := cellRc_len S V a i 0
  have h2 := cellRc_len S V a i 1
  show (([] ++ cellRc S V a i 0) ++ cellRc S V a i 1).length ≤ 2
  simp only [List.nil_append, List.length_append]
  omega
theorem rects_len (S : Sh) (V : Vw) (r c : Int) : (rectsOf S V r c).length ≤ 4 := by
  unfold rectsOf
  split
  · have h1 := innRc_len2 S V (areaOf S r.toNat c.toNat) 0
    have h2 := innRc_len2 S V (areaOf S r.toNat c.toNat) 1
    show (([] ++ innRc S V _ 0 2) ++ innRc S V _ 1 2).length ≤ 4
    simp only [List.nil_append, List.length_append]
    omega
  · simp
theorem clipB_bounds {A : Ax} (h1 : A.edge ≤ A.m) (h2 : A.hi ≤ A.m) (i f t : Nat) : 0 ≤ (A.clipB i f t).1 ∧ (A.clipB i f t).2 ≤ (A.m : Int) := by
  unfold Ax.clipB
  split
  · unfold Ax.clip0; simp only; omega
  · unfold Ax.clip1; simp only; omega
theorem mem_cellRc {S : Sh} {V : Vw} {a : Ar} {i k : Nat} {R : Rc} (h : R ∈ cellRc S V a i k) : 0 ≤ R.y0 ∧ R.y0 < R.y1 ∧ R.y1 ≤ 24 ∧ 0 ≤ R.x0 ∧ R.x0 < R.x1 ∧ R.x1 ≤ 80 := by
  have e1 : (rowAx S V 0 0 0).edge ≤ (rowAx S V 0 0 0).m := by show min _ 24 ≤ 24; omega
  have e2 : (rowAx S V 0 0 0).hi ≤ (rowAx S V 0 0 0).m := by show min _ 24 ≤ 24; omega
  have e3 : (colAx S V 0 0 0).edge ≤ (colAx S V 0 0 0).m := by show min _ 80 ≤ 80; omega
  have e4 : (colAx S V 0 0 0).hi ≤ (colAx S V 0 0 0).m := by show min _ 80 ≤ 80; omega
  obtain ⟨a1, a2⟩ := clipB_bounds e1 e2 i a.t a.b
  obtain ⟨b1, b2⟩ := clipB_bounds e3 e4 k a.l a.r
  unfold cellRc at h
  split at h
  · rename_i hlt
    simp only [List.mem_singleton] at h
    subst h
    exact ⟨a1, hlt.1, a2, b1, hlt.2, b2⟩
  · cases h
theorem rects_bounds {S : Sh} {V : Vw} (_hS : S.Ok) (_hV : V.Ok) (r c : Int) : ∀ R ∈ rectsOf S V r c, 0 ≤ R.y0 ∧ R.y0 < R.y1 ∧ R.y1 ≤ 24 ∧ 0 ≤ R.x0 ∧ R.x0 < R.x1 ∧ R.x1 ≤ 80 := by
  intro R h
  unfold rectsOf at h
  split at h
  · change R ∈ ([] ++ (([] ++ cellRc S V _ 0 0) ++ cellRc S V _ 0 1)) ++ (([] ++ cellRc S V _ 1 0) ++ cellRc S V _ 1 1) at h
    simp only [List.nil_append, List.mem_append] at h
    rcases h with (h | h) | (h | h) <;> exact mem_cellRc h
  · cases h
theorem rects_slice {w : World} {base : Nat} {v : Value} {L : List Rc} (h : w.ownsRow base 50 4 v L.length (flatR L)) : ∃ pp cp, v = .slice pp L.length cp ∧ ∀ R, L = [R] → ∃ g, pp = some ⟨g, 0, none⟩ ∧ w.cell? ⟨g, 0, none⟩ = some (.int .i64 R.y0) ∧ w.cell? ⟨g, 1, none⟩ = some (.int .i64 R.x0) ∧ w.cell? ⟨g, 2, none⟩ = some (.int .i64 R.y1) ∧ w.cell? ⟨g, 3, none⟩ = some (.int .i64 R.x1) := by
  rcases h.2 with ⟨e, hn⟩ | ⟨g, cap, cur, e, _⟩
  · refine ⟨none, 0, by rw [e, hn], fun R hR => ?_⟩
    rw [hR] at hn
    simp at hn
  · refine ⟨some ⟨g, 0, none⟩, cap, e, fun R hR => ⟨g, rfl, ?_⟩⟩
    have hr := h
    rw [e, hR] at hr
    exact ⟨(hr.cellAt 0 (by simp)).trans rfl, (hr.cellAt 1 (by simp)).trans rfl, (hr.cellAt 2 (by simp)).trans rfl, (hr.cellAt 3 (by simp)).trans rfl⟩
end Go.Proofs.Qxb6500653a
