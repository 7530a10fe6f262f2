/-
  Freeze (31), Scroll (32), SetView (34).
-/
import Derived.Test.Qxb6500653aView
namespace Go.Proofs.Qxb6500653a
open Go.RowKit

/-- a step on the view: some sound view -/
def MvPost (lb sb : Nat) (S : Sh) (w : World) (e : Ending) (w' : World) : Prop := ∃ (c : Int) (V' : Vw), e = .returned (.int .i64 c) ∧ Kp (one lb) w w' ∧ LayAt w' lb sb S V' ∧ V'.Ok ∧ 0 ≤ c ∧ c ≤ 1

theorem inS_nat {r c : Int} (h : inS r c = true) : ∃ rn cn : Nat, r = (rn : Int) ∧ c = (cn : Int) ∧ rn < 64 ∧ cn < 26 := by
  simp only [inS, Bool.and_eq_true, decide_eq_true_eq] at h
  exact ⟨r.toNat, c.toNat, by omega, by omega, by omega, by omega⟩

set_option maxRecDepth 100000 in
set_option maxHeartbeats 1000000 in
theorem freeze_at (w : World) (lb sb : Nat) (S : Sh) (V : Vw) (hL : LayAt w lb sb S V) (hV : V.Ok) (r c : Int) :
    Calls Try.prog 31 #[.pointer (some ⟨lb, 0, none⟩), .int .i64 r, .int .i64 c] w (MvPost lb sb S w) := by
  cases hh : inS r c with
  | false =>
    go_enter Try.func31, Try.ntmps31
    go_wp2_with fail
    refine (inSheet_at w r c).mono ?_
    rw [hh]
    rintro e w2 ⟨rfl, k2⟩
    go_wp2_with fail
    go_ret
    exact ⟨1, V, rfl, Kp.of_no k2, hL.on k2, hV, by decide, by decide⟩
  | true =>
    obtain ⟨rn, cn, rfl, rfl, hr, hc⟩ := inS_nat hh
    obtain ⟨m1, hm1⟩ : ∃ m1, m1 = max V.sr rn := ⟨_, rfl⟩
    obtain ⟨m2, hm2⟩ : ∃ m2, m2 = max V.sc cn := ⟨_, rfl⟩
    have e1 : (if V.sr < rn then (rn : Int) else (V.sr : Int)) = (m1 : Int) := by split <;> omega
    have e2 : (if V.sc < cn then (cn : Int) else (V.sc : Int)) = (m2 : Int) := by split <;> omega
    have HOK : Hid (Vw.Ok ⟨rn, cn, m1, m2⟩) := by have := hV.sr; have := hV.sc; exact ⟨by simp only; omega, by simp only; omega, by simp only; omega, by simp only; omega⟩
    clear hm1 hm2
    go_enter Try.func31, Try.ntmps31
    go_wp2_with fail
    refine (inSheet_at w rn cn).mono ?_
    rw [hh]
    rintro e w2 ⟨rfl, k2⟩
    clear hh
    have hL2 := hL.on k2
    have c3 := hL2.c3
    have c4 := hL2.c4
    have HSV : Hid (Calls Try.prog 46 #[.pointer (some ⟨lb, 0, none⟩), .agg #[.int .i64 (rn : Int), .int .i64 (cn : Int), .int .i64 (m1 : Int), .int .i64 (m2 : Int)]] w2.drew fun e w' => e = .returned (.tuple #[]) ∧ Kp (one lb) w2.drew w' ∧ LayAt w' lb sb S ⟨rn, cn, m1, m2⟩) := setView_at w2.drew lb sb S V ⟨rn, cn, m1, m2⟩ (hL2.on (Kp.refl _ _).drew)
    go_wp2_with fail
    go_region_with (go_at_call 46; refine HSV.out.mono ?_; rintro e w5 ⟨rfl, kp5, hL5⟩)
    all_goals go_wp2_with fail
    all_goals go_ret
    all_goals exact ⟨0, ⟨rn, cn, m1, m2⟩, rfl, (Kp.of_no k2.drew).trans kp5, hL5, HOK.out, by decide, by decide⟩
end Go.Proofs.Qxb6500653a
