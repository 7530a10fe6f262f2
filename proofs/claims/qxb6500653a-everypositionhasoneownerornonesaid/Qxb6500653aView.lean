/-
  View (12), setView (46).
-/
import Derived.Test.Qxb6500653aAxes
namespace Go.Proofs.Qxb6500653a
open Go.RowKit

def Vw.v (V : Vw) : Value := .agg #[.int .i64 (V.fr : Int), .int .i64 (V.fc : Int), .int .i64 (V.sr : Int), .int .i64 (V.sc : Int)]

theorem neq44 (a b c d a' b' c' d' : Int) (W : World) : (binOp .neq 44 (.agg #[.int .i64 a, .int .i64 b, .int .i64 c, .int .i64 d]) (.agg #[.int .i64 a', .int .i64 b', .int .i64 c', .int .i64 d'])).run Try.prog W = .ok (.bool (!((a == a') && (b == b') && (c == c') && (d == d')))) W := by
  by_cases h1 : a = a'
  · subst h1
    by_cases h2 : b = b'
    · subst h2
      by_cases h3 : c = c'
      · subst h3
        by_cases h4 : d = d'
        · subst h4; go_simp
        · go_simp
      · go_simp
    · go_simp
  · go_simp
theorem neq56 (a b c d a' b' c' d' : Int) (W : World) : (binOp .neq 56 (.agg #[.int .i64 a, .int .i64 b, .int .i64 c, .int .i64 d]) (.agg #[.int .i64 a', .int .i64 b', .int .i64 c', .int .i64 d'])).run Try.prog W = .ok (.bool (!((a == a') && (b == b') && (c == c') && (d == d')))) W := by
  by_cases h1 : a = a'
  · subst h1
    by_cases h2 : b = b'
    · subst h2
      by_cases h3 : c = c'
      · subst h3
        by_cases h4 : d = d'
        · subst h4; go_simp
        · go_simp
      · go_simp
    · go_simp
  · go_simp
theorem neq31 (a b a' b' : Int) (W : World) : (binOp .neq 31 (.agg #[.int .i64 a, .int .i64 b]) (.agg #[.int .i64 a', .int .i64 b'])).run Try.prog W = .ok (.bool (!((a == a') && (b == b')))) W := by
  by_cases h1 : a = a'
  · subst h1
    by_cases h2 : b = b'
    · subst h2; go_simp
    · go_simp
  · go_simp
theorem eql31 (a b a' b' : Int) (W : World) : (binOp .eql 31 (.agg #[.int .i64 a, .int .i64 b]) (.agg #[.int .i64 a', .int .i64 b'])).run Try.prog W = .ok (.bool ((a == a') && (b == b'))) W := by
  by_cases h1 : a = a'
  · subst h1
    by_cases h2 : b = b'
    · subst h2; go_simp
    · go_simp
  · go_simp

theorem keepc {w : World} {b i j : Nat} {u v : Value} (h : i ≠ j) (hv : w.cell? ⟨b, j, none⟩ = some v) : (w.setCell ⟨b, i, none⟩ u).cell? ⟨b, j, none⟩ = some v := (cset_ne _ _ _ _ _ h).trans hv
theorem view_fin {wq : World} {lb sb : Nat} {S : Sh} {V : Vw} (hL : LayAt wq lb sb S V) (V' : Vw) :
    Kp (one lb) wq ((((((wq.setCell ⟨lb, 1, none⟩ (.int .i64 (V'.fr : Int))).setCell ⟨lb, 2, none⟩ (.int .i64 (V'.fc : Int))).setCell ⟨lb, 3, none⟩ (.int .i64 (V'.sr : Int))).setCell ⟨lb, 4, none⟩ (.int .i64 (V'.sc : Int))).setCell ⟨lb, 5, none⟩ (.pointer none)).setCell ⟨lb, 6, none⟩ (.pointer none)) ∧ LayAt ((((((wq.setCell ⟨lb, 1, none⟩ (.int .i64 (V'.fr : Int))).setCell ⟨lb, 2, none⟩ (.int .i64 (V'.fc : Int))).setCell ⟨lb, 3, none⟩ (.int .i64 (V'.sr : Int))).setCell ⟨lb, 4, none⟩ (.int .i64 (V'.sc : Int))).setCell ⟨lb, 5, none⟩ (.pointer none)).setCell ⟨lb, 6, none⟩ (.pointer none)) lb sb S V' := by
  obtain ⟨rp, cp, rev, c5, c6, c7, hr, hk⟩ := hL.kept
  refine ⟨(Kp.setCell (Kp.setCell (Kp.setCell (Kp.setCell (Kp.setCell (Kp.setCell (Kp.refl (one lb) wq) (p := ⟨lb, 1, none⟩) (fun _ => rfl) _) (p := ⟨lb, 2, none⟩) (fun _ => rfl) _) (p := ⟨lb, 3, none⟩) (fun _ => rfl) _) (p := ⟨lb, 4, none⟩) (fun _ => rfl) _) (p := ⟨lb, 5, none⟩) (fun _ => rfl) _) (p := ⟨lb, 6, none⟩) (fun _ => rfl) _), ⟨(keepc (by decide) (keepc (by decide) (keepc (by decide) (keepc (by decide) (keepc (by decide) (keepc (by decide) hL.src)))))), (keepc (by decide) (keepc (by decide) (keepc (by decide) (keepc (by decide) (keepc (by decide) (cset_eq _ _ _ _ hL.c1)))))), (keepc (by decide) (keepc (by decide) (keepc (by decide) (keepc (by decide) (cset_eq _ _ _ _ (keepc (by decide) hL.c2)))))), (keepc (by decide) (keepc (by decide) (keepc (by decide) (cset_eq _ _ _ _ (keepc (by decide) (keepc (by decide) hL.c3)))))), (keepc (by decide) (keepc (by decide) (cset_eq _ _ _ _ (keepc (by decide) (keepc (by decide) (keepc (by decide) hL.c4)))))), ⟨none, none, rev, (keepc (by decide) (cset_eq _ _ _ _ (keepc (by decide) (keepc (by decide) (keepc (by decide) (keepc (by decide) c5)))))), (cset_eq _ _ _ _ (keepc (by decide) (keepc (by decide) (keepc (by decide) (keepc (by decide) (keepc (by decide) c6)))))), (keepc (by decide) (keepc (by decide) (keepc (by decide) (keepc (by decide) (keepc (by decide) (keepc (by decide) c7)))))), hr, Or.inl rfl⟩, fun o => ?_⟩⟩
  rw [World.frozen?_setCell, World.frozen?_setCell, World.frozen?_setCell, World.frozen?_setCell, World.frozen?_setCell, World.frozen?_setCell]
  exact hL.free o

set_option maxHeartbeats 400000 in
theorem view_at (w : World) (lb sb : Nat) (S : Sh) (V : Vw) (hL : LayAt w lb sb S V) :
    Calls Try.prog 12 #[.pointer (some ⟨lb, 0, none⟩)] w fun e w' => e = .returned V.v ∧ Kp no w w' := by
  have c1 := hL.c1
  have c2 := hL.c2
  have c3 := hL.c3
  have c4 := hL.c4
  have hlt := hL.lt
  clear hL
  go_enter Try.func12, Try.ntmps12
  go_wp2
  exact bodyPost_ret (v := V.v) (by simp [results, Try.results12, go_sem]; rfl) rfl ⟨rfl, (Kp.refl _ _).alloc _⟩

set_option maxRecDepth 100000 in
set_option maxHeartbeats 1000000 in
theorem setView_at (w : World) (lb sb : Nat) (S : Sh) (V V' : Vw) (hL : LayAt w lb sb S V) :
    Calls Try.prog 46 #[.pointer (some ⟨lb, 0, none⟩), V'.v] w fun e w' => e = .returned (.tuple #[]) ∧ Kp (one lb) w w' ∧ LayAt w' lb sb S V' := by
  unfold Vw.v
  obtain ⟨w2, hw2⟩ : ∃ w2, w2 = w.alloc (.cells #[.int .i64 (V'.fr : Int), .int .i64 (V'.fc : Int), .int .i64 (V'.sr : Int), .int .i64 (V'.sc : Int)] 44) := ⟨_, rfl⟩
  obtain ⟨vb, hvb⟩ : ∃ vb, vb = w.heap.size := ⟨_, rfl⟩
  have HK2 : Hid (Kp no w w2) := by show Kp no w w2; rw [hw2]; exact (Kp.refl _ _).alloc _
  obtain ⟨v0, v1, v2, v3⟩ : (w2.cell? ⟨vb, 0, none⟩ = some (.int .i64 (V'.fr : Int)) ∧ w2.cell? ⟨vb, 1, none⟩ = some (.int .i64 (V'.fc : Int)) ∧ w2.cell? ⟨vb, 2, none⟩ = some (.int .i64 (V'.sr : Int)) ∧ w2.cell? ⟨vb, 3, none⟩ = some (.int .i64 (V'.sc : Int))) := by
    subst hw2 hvb
    exact ⟨by simp, by simp, by simp, by simp⟩
  have hL2 : LayAt w2 lb sb S V := hL.on HK2.out
  have c1 := hL2.c1
  have c2 := hL2.c2
  have c3 := hL2.c3
  have c4 := hL2.c4
  have hne : vb ≠ lb := by rw [hvb]; exact Nat.ne_of_gt hL.lt
  clear hL
  by_cases hV : V' = V
  · subst hV
    go_enter Try.func46, Try.ntmps46
    go_wp2_with fail
    rw [← hvb, ← hw2]
    clear hw2 hvb
    go_quiet (fail)
    go_wp2_with fail
    go_end0
    exact ⟨rfl, (Kp.of_no HK2.out).drewN _, hL2.on ((Kp.refl _ _).drewN _)⟩
  · have hf := hL2.free
    have f1 := hf 1
    have f2 := hf 2
    have f3 := hf 3
    have f4 := hf 4
    have f5 := hf 5
    have f6 := hf 6
    obtain ⟨rp, cp, rev, c5, c6, c7, hr, hk⟩ := hL2.kept
    have hb : (((V'.fr : Int) == (V.fr : Int)) && ((V'.fc : Int) == (V.fc : Int)) && ((V'.sr : Int) == (V.sr : Int)) && ((V'.sc : Int) == (V.sc : Int))) = false := by
      cases hq : (((V'.fr : Int) == (V.fr : Int)) && ((V'.fc : Int) == (V.fc : Int)) && ((V'.sr : Int) == (V.sr : Int)) && ((V'.sc : Int) == (V.sc : Int))) with
      | false => rfl
      | true =>
        simp only [Bool.and_eq_true, beq_iff_eq] at hq
        exfalso
        apply hV
        obtain ⟨a, b, c, d⟩ := V
        obtain ⟨a', b', c', d'⟩ := V'
        simp only [Vw.mk.injEq]
        simp only at hq
        omega
    have hneq : ∀ W : World, (binOp .neq 44 (.agg #[.int .i64 (V'.fr : Int), .int .i64 (V'.fc : Int), .int .i64 (V'.sr : Int), .int .i64 (V'.sc : Int)]) (.agg #[.int .i64 (V.fr : Int), .int .i64 (V.fc : Int), .int .i64 (V.sr : Int), .int .i64 (V.sc : Int)])).run Try.prog W = .ok (.bool true) W := fun W => by rw [neq44, hb]; rfl
    clear hf hk hb
    go_enter Try.func46, Try.ntmps46
    go_wp2_with fail
    rw [← hvb, ← hw2]
    clear hw2 hvb
    go_quiet (fail)
    generalize hwq : w2.drewN nq = wq
    obtain ⟨y0, y1, y2, y3, z1, z2, z3, z4, z5, z6⟩ : wq.cell? ⟨vb, 0, none⟩ = some (.int .i64 (V'.fr : Int)) ∧ wq.cell? ⟨vb, 1, none⟩ = some (.int .i64 (V'.fc : Int)) ∧ wq.cell? ⟨vb, 2, none⟩ = some (.int .i64 (V'.sr : Int)) ∧ wq.cell? ⟨vb, 3, none⟩ = some (.int .i64 (V'.sc : Int)) ∧ wq.cell? ⟨lb, 1, none⟩ = some (.int .i64 (V.fr : Int)) ∧ wq.cell? ⟨lb, 2, none⟩ = some (.int .i64 (V.fc : Int)) ∧ wq.cell? ⟨lb, 3, none⟩ = some (.int .i64 (V.sr : Int)) ∧ wq.cell? ⟨lb, 4, none⟩ = some (.int .i64 (V.sc : Int)) ∧ wq.cell? ⟨lb, 5, none⟩ = some (.pointer rp) ∧ wq.cell? ⟨lb, 6, none⟩ = some (.pointer cp) := by
      subst hwq
      exact ⟨v0, v1, v2, v3, c1, c2, c3, c4, c5, c6⟩
    obtain ⟨g1, g2, g3, g4, g5, g6⟩ : wq.frozen? ⟨lb, 1, none⟩ = false ∧ wq.frozen? ⟨lb, 2, none⟩ = false ∧ wq.frozen? ⟨lb, 3, none⟩ = false ∧ wq.frozen? ⟨lb, 4, none⟩ = false ∧ wq.frozen? ⟨lb, 5, none⟩ = false ∧ wq.frozen? ⟨lb, 6, none⟩ = false := by
      subst hwq
      exact ⟨f1, f2, f3, f4, f5, f6⟩
    have hLq : LayAt wq lb sb S V := by rw [← hwq]; exact hL2.on ((Kp.refl _ _).drewN _)
    have HKq : Hid (Kp no w wq) := by show Kp no w wq; rw [← hwq]; exact HK2.out.drewN _
    clear hwq v0 v1 v2 v3 c1 c2 c3 c4 c5 c6 f1 f2 f3 f4 f5 f6
    go_wp2_with fail
    go_end0
    exact ⟨rfl, (Kp.of_no HKq.out).trans (view_fin hLq V').1, (view_fin hLq V').2⟩
end Go.Proofs.Qxb6500653a
