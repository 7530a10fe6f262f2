/-
  THE GEOMETRY OF ONE AXIS IN MEMORY, and what reads it: span (49), clip (38), bandOf (60), home (57), textLine (45), reveal (47).
-/
import Derived.Test.Qxb6500653aRows
import Derived.Test.Qxb6500653aChecked
import Derived.WalkKit
import Derived.Below
import Derived.RegionTactic
import Derived.BigRegion
import Derived.BigQuiet
import Derived.Deep.QuietTactic
import Derived.Deep.RegionWith
namespace Go.Proofs.Qxb6500653a
open Go.RowKit

/-- an axis; zb, tb, lb: the blocks of its three rows -/
structure Ax where
  n : Nat
  m : Nat
  sz : Nat → Nat
  st : Nat → Int
  fz : Nat
  edge : Nat
  hi : Nat
  ln : Nat → Int
  zb : Nat
  tb : Nat
  lb : Nat

/-- its numbers are small -/
structure Ax.Ok (A : Ax) : Prop where
  n : A.n ≤ 64
  m : A.m ≤ 80
  sz : ∀ i, A.sz i ≤ 80
  st : ∀ i, -10000 ≤ A.st i ∧ A.st i ≤ 10000
  fz : A.fz < A.n
  edge : A.edge ≤ A.m
  hi : A.hi ≤ A.m

/-- it lies so in memory -/
structure AxAt (w : World) (ab : Nat) (A : Ax) : Prop where
  c0 : w.cell? ⟨ab, 0, none⟩ = some (.slice (some ⟨A.zb, 0, none⟩) A.n A.n)
  c1 : w.cell? ⟨ab, 1, none⟩ = some (.slice (some ⟨A.tb, 0, none⟩) A.n A.n)
  c2 : w.cell? ⟨ab, 2, none⟩ = some (.int .i64 0)
  c3 : w.cell? ⟨ab, 2 + 1, none⟩ = some (.int .i64 (A.fz : Int))
  c4 : w.cell? ⟨ab, 2 + 2, none⟩ = some (.int .i64 0)
  c5 : w.cell? ⟨ab, 2 + 3, none⟩ = some (.int .i64 (A.edge : Int))
  c6 : w.cell? ⟨ab, 6, none⟩ = some (.int .i64 (A.fz : Int))
  c7 : w.cell? ⟨ab, 6 + 1, none⟩ = some (.int .i64 (A.n : Int))
  c8 : w.cell? ⟨ab, 6 + 2, none⟩ = some (.int .i64 (A.edge : Int))
  c9 : w.cell? ⟨ab, 6 + 3, none⟩ = some (.int .i64 (A.hi : Int))
  c10 : w.cell? ⟨ab, 10, none⟩ = some (.slice (some ⟨A.lb, 0, none⟩) A.m A.m)
  cz : ∀ i, i < A.n → w.cell? ⟨A.zb, i, none⟩ = some (.int .i64 (A.sz i : Int))
  ct : ∀ i, i < A.n → w.cell? ⟨A.tb, i, none⟩ = some (.int .i64 (A.st i))
  cl : ∀ p, p < A.m → w.cell? ⟨A.lb, p, none⟩ = some (.int .i64 (A.ln p))

/-- the stretch in band 0, in band 1 -/
def Ax.span0 (A : Ax) (f t : Nat) : Int × Int := if f < A.fz then (A.st f, A.st (min t (A.fz - 1)) + A.sz (min t (A.fz - 1))) else (0, 0)
def Ax.span1 (A : Ax) (f t : Nat) : Int × Int := if A.fz ≤ t then (A.st (max f A.fz), A.st t + A.sz t) else (0, 0)

set_option maxHeartbeats 1000000 in
theorem span_one (w : World) (ab : Nat) (A : Ax) (hA : AxAt w ab A) (hok : A.Ok) (f t : Nat) (hft : f ≤ t) (ht : t < A.n) :
    Calls Try.prog 49 #[.pointer (some ⟨ab, 0, none⟩), .int .i64 (f : Int), .int .i64 (t : Int), .pointer (some ⟨ab, 6, none⟩)] w fun e w' => e = .returned (.tuple #[.int .i64 (A.span1 f t).1, .int .i64 (A.span1 f t).2]) ∧ ∃ q, w' = w.drewN q := by
  have c0 := hA.c0
  have c1 := hA.c1
  have c6 := hA.c6
  have c7 := hA.c7
  have k1 := hok.n
  have k2 := hok.fz
  by_cases hb : A.fz ≤ t
  · have z1 := hA.ct t ht
    have z2 := hA.cz t ht
    have s1 := hok.st t
    have s2 := hok.sz t
    obtain ⟨g, hg⟩ : ∃ g, g = max f A.fz := ⟨_, rfl⟩
    have z3 := hA.ct g (by omega)
    have HE : Hid (A.span1 f t = (A.st g, A.st t + A.sz t)) := by show _ = _; rw [Ax.span1, if_pos hb, hg]
    have hgi : (if f < A.fz then (A.fz : Int) else (f : Int)) = (g : Int) := by split <;> omega
    have hgt : g ≤ t := by omega
    clear hg hA hok
    generalize A.st t = st at *
    generalize A.sz t = sz at *
    generalize A.st g = sg at *
    have e1 : (t : Int) < (A.n : Int) := by omega
    have e2 : (g : Int) < (A.n : Int) := by omega
    go_enter Try.func49, Try.ntmps49
    go_wp2_with fail
    go_region
    go_wp2_with fail
    go_quiet (fail)
    go_wp2_with fail
    go_ret2
    exact ⟨by rw [HE.out]; rfl, 1 + nq, by rw [← World.drewN_drewN]; rfl⟩
  · have HE : Hid (A.span1 f t = (0, 0)) := by show _ = _; rw [Ax.span1, if_neg hb]
    clear hA hok
    go_enter Try.func49, Try.ntmps49
    go_wp2_with fail
    go_region
    go_wp2_with fail
    go_ret2
    exact ⟨by rw [HE.out]; rfl, 1, rfl⟩
set_option maxHeartbeats 1000000 in
theorem span_zero (w : World) (ab : Nat) (A : Ax) (hA : AxAt w ab A) (hok : A.Ok) (f t : Nat) (hft : f ≤ t) (ht : t < A.n) :
    Calls Try.prog 49 #[.pointer (some ⟨ab, 0, none⟩), .int .i64 (f : Int), .int .i64 (t : Int), .pointer (some ⟨ab, 2, none⟩)] w fun e w' => e = .returned (.tuple #[.int .i64 (A.span0 f t).1, .int .i64 (A.span0 f t).2]) ∧ ∃ q, w' = w.drewN q := by
  have c0 := hA.c0
  have c1 := hA.c1
  have c6 := hA.c2
  have c7 := hA.c3
  have k1 := hok.n
  have k2 := hok.fz
  by_cases hb : f < A.fz
  · obtain ⟨g, hg⟩ : ∃ g, g = min t (A.fz - 1) := ⟨_, rfl⟩
    have z1 := hA.ct g (by omega)
    have z2 := hA.cz g (by omega)
    have z3 := hA.ct f (by omega)
    have s1 := hok.st g
    have s2 := hok.sz g
    have HE : Hid (A.span0 f t = (A.st f, A.st g + A.sz g)) := by show _ = _; rw [Ax.span0, if_pos hb, hg]
    have hgi : (if (A.fz : Int) - 1 < (t : Int) then (A.fz : Int) - 1 else (t : Int)) = (g : Int) := by split <;> omega
    have hgf : f ≤ g := by omega
    have e2 : (g : Int) < (A.n : Int) := by omega
    have e1 : (f : Int) < (A.n : Int) := by omega
    have hf0 : 0 ≤ f := by omega
    clear hg hA hok
    generalize A.st f = sf at *
    generalize A.st g = st at *
    generalize A.sz g = sz at *
    go_enter Try.func49, Try.ntmps49
    go_wp2_with fail
    go_region
    go_wp2_with fail
    go_quiet (fail)
    go_wp2_with fail
    go_ret2
    exact ⟨by rw [HE.out]; rfl, 1 + nq, by rw [← World.drewN_drewN]; rfl⟩
  · have HE : Hid (A.span0 f t = (0, 0)) := by show _ = _; rw [Ax.span0, if_neg hb]
    clear hA hok
    go_enter Try.func49, Try.ntmps49
    go_wp2_with fail
    go_region
    go_wp2_with fail
    go_ret2
    exact ⟨by rw [HE.out]; rfl, 1, rfl⟩
end Go.Proofs.Qxb6500653a
