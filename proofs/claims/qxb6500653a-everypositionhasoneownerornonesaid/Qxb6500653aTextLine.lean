/-
  textLine (45), reveal (47).
-/
import Derived.Test.Qxb6500653aHome
namespace Go.Proofs.Qxb6500653a
open Go.RowKit

/-- what textLine says of a stretch p1 .. p2 - 1 in the band lo .. hi - 1 -/
def tlB (p1 p2 lo hi : Int) : Bool := decide (p1 < p2 ∧ lo ≤ p1 ∧ p1 < hi)

set_option maxHeartbeats 1000000 in
theorem text_gen (w : World) (ab bo : Nat) (f t : Nat) (p1 p2 lo hi : Int)
    (hs : Calls Try.prog 57 #[.pointer (some ⟨ab, 0, none⟩), .int .i64 (f : Int), .int .i64 (t : Int)] w fun e w' => e = .returned (.tuple #[.pointer (some ⟨ab, bo, none⟩), .int .i64 p1, .int .i64 p2]) ∧ ∃ q, w' = w.drewN q)
    (c2 : w.cell? ⟨ab, bo + 2, none⟩ = some (.int .i64 lo)) (c3 : w.cell? ⟨ab, bo + 3, none⟩ = some (.int .i64 hi)) :
    Calls Try.prog 45 #[.pointer (some ⟨ab, 0, none⟩), .int .i64 (f : Int), .int .i64 (t : Int)] w fun e w' => e = .returned (.tuple #[.int .i64 p1, .bool (tlB p1 p2 lo hi)]) ∧ ∃ q, w' = w.drewN q := by
  go_enter Try.func45, Try.ntmps45
  go_wp2_with fail
  refine hs.mono ?_
  rintro e w1 ⟨rfl, q, rfl⟩
  go_wp2_with fail
  by_cases h1 : p1 < p2
  · have d1 : decide (p1 < p2) = true := by simp [h1]
    by_cases h2 : lo ≤ p1
    · have d2 : decide (lo ≤ p1) = true := by simp [h2]
      have HB : Hid (tlB p1 p2 lo hi = decide (p1 < hi)) := by show _ = _; unfold tlB; congr 1; simp [h1, h2]
      go_quiet (fail)
      go_wp2_with fail
      go_ret2
      exact ⟨by rw [HB.out]; rfl, q + nq, World.drewN_drewN _ _ _⟩
    · have d2 : decide (lo ≤ p1) = false := by simp; omega
      have HB : Hid (tlB p1 p2 lo hi = false) := by show _ = _; unfold tlB; exact decide_eq_false (fun h => h2 h.2.1)
      go_quiet (fail)
      go_wp2_with fail
      go_ret2
      exact ⟨by rw [HB.out]; rfl, _, rfl⟩
  · have d1 : decide (p1 < p2) = false := by simp; omega
    have HB : Hid (tlB p1 p2 lo hi = false) := by show _ = _; unfold tlB; exact decide_eq_false (fun h => h1 h.1)
    go_quiet (fail)
    go_wp2_with fail
    go_ret2
    exact ⟨by rw [HB.out]; rfl, _, rfl⟩
end Go.Proofs.Qxb6500653a
