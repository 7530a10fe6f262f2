/-
  clip (38), bandOf (60).
-/
import Derived.Test.Qxb6500653aAxis
namespace Go.Proofs.Qxb6500653a
open Go.RowKit

def Ax.clip0 (A : Ax) (f t : Nat) : Int × Int := (max (A.span0 f t).1 0, min (A.span0 f t).2 A.edge)
def Ax.clip1 (A : Ax) (f t : Nat) : Int × Int := (max (A.span1 f t).1 A.edge, min (A.span1 f t).2 A.hi)

theorem AxAt.drewN {w : World} {ab : Nat} {A : Ax} (h : AxAt w ab A) (q : Nat) : AxAt (w.drewN q) ab A := ⟨h.c0, h.c1, h.c2, h.c3, h.c4, h.c5, h.c6, h.c7, h.c8, h.c9, h.c10, h.cz, h.ct, h.cl⟩

set_option maxHeartbeats 1000000 in
theorem clip_one (w : World) (ab : Nat) (A : Ax) (hA : AxAt w ab A) (hok : A.Ok) (f t : Nat) (hft : f ≤ t) (ht : t < A.n) :
    Calls Try.prog 38 #[.pointer (some ⟨ab, 0, none⟩), .int .i64 (f : Int), .int .i64 (t : Int), .pointer (some ⟨ab, 6, none⟩)] w fun e w' => e = .returned (.tuple #[.int .i64 (A.clip1 f t).1, .int .i64 (A.clip1 f t).2]) ∧ ∃ q, w' = w.drewN q := by
  have hs := span_one w ab A hA hok f t hft ht
  obtain ⟨p1, hp1⟩ : ∃ p1, p1 = (A.span1 f t).1 := ⟨_, rfl⟩
  obtain ⟨p2, hp2⟩ : ∃ p2, p2 = (A.span1 f t).2 := ⟨_, rfl⟩
  rw [← hp1, ← hp2] at hs
  obtain ⟨x1, hx1⟩ : ∃ x1, x1 = max p1 (A.edge : Int) := ⟨_, rfl⟩
  obtain ⟨x2, hx2⟩ : ∃ x2, x2 = min p2 (A.hi : Int) := ⟨_, rfl⟩
  have HE : Hid (A.clip1 f t = (x1, x2)) := by show _ = _; rw [Ax.clip1, ← hp1, ← hp2, hx1, hx2]
  have m1 : (if p1 < (A.edge : Int) then (A.edge : Int) else p1) = x1 := by split <;> omega
  have m2 : (if (A.hi : Int) < p2 then (A.hi : Int) else p2) = x2 := by split <;> omega
  have c8 := hA.c8
  have c9 := hA.c9
  clear hp1 hp2 hA hok hx1 hx2
  go_enter Try.func38, Try.ntmps38
  go_wp2_with fail
  refine hs.mono ?_
  rintro e w1 ⟨rfl, q, rfl⟩
  go_wp2_with fail
  go_region
  go_wp2_with fail
  go_ret2
  exact ⟨by rw [HE.out]; rfl, _, rfl⟩

set_option maxHeartbeats 1000000 in
theorem clip_zero (w : World) (ab : Nat) (A : Ax) (hA : AxAt w ab A) (hok : A.Ok) (f t : Nat) (hft : f ≤ t) (ht : t < A.n) :
    Calls Try.prog 38 #[.pointer (some ⟨ab, 0, none⟩), .int .i64 (f : Int), .int .i64 (t : Int), .pointer (some ⟨ab, 2, none⟩)] w fun e w' => e = .returned (.tuple #[.int .i64 (A.clip0 f t).1, .int .i64 (A.clip0 f t).2]) ∧ ∃ q, w' = w.drewN q := by
  have hs := span_zero w ab A hA hok f t hft ht
  obtain ⟨p1, hp1⟩ : ∃ p1, p1 = (A.span0 f t).1 := ⟨_, rfl⟩
  obtain ⟨p2, hp2⟩ : ∃ p2, p2 = (A.span0 f t).2 := ⟨_, rfl⟩
  rw [← hp1, ← hp2] at hs
  obtain ⟨x1, hx1⟩ : ∃ x1, x1 = max p1 (0 : Int) := ⟨_, rfl⟩
  obtain ⟨x2, hx2⟩ : ∃ x2, x2 = min p2 (A.edge : Int) := ⟨_, rfl⟩
  have HE : Hid (A.clip0 f t = (x1, x2)) := by show _ = _; rw [Ax.clip0, ← hp1, ← hp2, hx1, hx2]
  have m1 : (if p1 < 0 then 0 else p1) = x1 := by split <;> omega
  have m2 : (if (A.edge : Int) < p2 then (A.edge : Int) else p2) = x2 := by split <;> omega
  have c8 := hA.c4
  have c9 := hA.c5
  clear hp1 hp2 hA hok hx1 hx2
  go_enter Try.func38, Try.ntmps38
  go_wp2_with fail
  refine hs.mono ?_
  rintro e w1 ⟨rfl, q, rfl⟩
  go_wp2_with fail
  go_region
  go_wp2_with fail
  go_ret2
  exact ⟨by rw [HE.out]; rfl, _, rfl⟩

set_option maxHeartbeats 400000 in
theorem bandOf_any (w : World) (ab : Nat) (A : Ax) (hA : AxAt w ab A) (i : Nat) :
    Calls Try.prog 60 #[.pointer (some ⟨ab, 0, none⟩), .int .i64 (i : Int)] w fun e w' => e = .returned (.pointer (some ⟨ab, if i < A.fz then 2 else 6, none⟩)) ∧ w' = w := by
  have c3 := hA.c3
  clear hA
  by_cases h : i < A.fz
  · rw [if_pos h]
    go_enter Try.func60, Try.ntmps60
    go_wp2
    go_ret
    exact ⟨rfl, rfl⟩
  · rw [if_neg h]
    go_enter Try.func60, Try.ntmps60
    go_wp2
    go_ret
    exact ⟨rfl, rfl⟩
end Go.Proofs.Qxb6500653a
