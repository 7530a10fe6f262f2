/-
  Scroll (32), SetView (34).
-/
import Derived.Test.Qxb6500653aMoves
namespace Go.Proofs.Qxb6500653a
open Go.RowKit

set_option maxRecDepth 100000 in
set_option maxHeartbeats 1000000 in
theorem scroll_at (w : World) (lb sb : Nat) (S : Sh) (V : Vw) (hL : LayAt w lb sb S V) (hV : V.Ok) (r c : Int) :
    Calls Try.prog 32 #[.pointer (some ⟨lb, 0, none⟩), .int .i64 r, .int .i64 c] w (MvPost lb sb S w) := by
  cases hh : inS r c with
  | false =>
    go_enter Try.func32, Try.ntmps32
    go_wp2_with fail
    refine (inSheet_at w r c).mono ?_
    rw [hh]
    rintro e w2 ⟨rfl, k2⟩
    go_wp2_with fail
    go_ret
    exact ⟨1, V, rfl, Kp.of_no k2, hL.on k2, hV, by decide, by decide⟩
  | true =>
    obtain ⟨rn, cn, rfl, rfl, hr, hc⟩ := inS_nat hh
    obtain ⟨m1, hm1⟩ : ∃ m1, m1 = max rn V.fr := ⟨_, rfl⟩
    obtain ⟨m2, hm2⟩ : ∃ m2, m2 = max cn V.fc := ⟨_, rfl⟩
    have e1 : (if rn < V.fr then (V.fr : Int) else (rn : Int)) = (m1 : Int) := by split <;> omega
    have e2 : (if cn < V.fc then (V.fc : Int) else (cn : Int)) = (m2 : Int) := by split <;> omega
    have HOK : Hid (Vw.Ok ⟨V.fr, V.fc, m1, m2⟩) := by have := hV.sr; have := hV.sc; have := hV.r; have := hV.c; exact ⟨by simp only; omega, by simp only; omega, by simp only; omega, by simp only; omega⟩
    clear hm1 hm2
    go_enter Try.func32, Try.ntmps32
    go_wp2_with fail
    refine (inSheet_at w rn cn).mono ?_
    rw [hh]
    rintro e w2 ⟨rfl, k2⟩
    clear hh
    have hL2 := hL.on k2
    have c1 := hL2.c1
    have c2 := hL2.c2
    have c3 := hL2.c3
    have c4 := hL2.c4
    have hlt := hL2.lt
    go_wp2_with fail
    refine (setView_at _ lb sb S V ⟨V.fr, V.fc, m1, m2⟩ (hL2.on ((Kp.refl _ _).alloc _))).mono ?_
    rintro e w5 ⟨rfl, kp5, hL5⟩
    go_wp2_with fail
    go_ret
    exact ⟨0, ⟨V.fr, V.fc, m1, m2⟩, rfl, (Kp.of_no (k2.alloc _)).trans kp5, hL5, HOK.out, by decide, by decide⟩

/-- is the view sound? -/
def okV (a b c d : Int) : Bool := inS a b && (inS c d && (decide (a ≤ c) && decide (b ≤ d)))

set_option maxRecDepth 100000 in
set_option maxHeartbeats 1000000 in
theorem setViewM_at (w : World) (lb sb : Nat) (S : Sh) (V : Vw) (hL : LayAt w lb sb S V) (hV : V.Ok) (a b c d : Int) :
    Calls Try.prog 34 #[.pointer (some ⟨lb, 0, none⟩), .agg #[.int .i64 a, .int .i64 b, .int .i64 c, .int .i64 d]] w (MvPost lb sb S w) := by
  obtain ⟨w1, hw1⟩ : ∃ w1, w1 = w.alloc (.cells #[.int .i64 a, .int .i64 b, .int .i64 c, .int .i64 d] 44) := ⟨_, rfl⟩
  obtain ⟨vb, hvb⟩ : ∃ vb, vb = w.heap.size := ⟨_, rfl⟩
  have HK1 : Hid (Kp no w w1) := by show Kp no w w1; rw [hw1]; exact (Kp.refl _ _).alloc _
  obtain ⟨v0, v1, v2, v3⟩ : w1.cell? ⟨vb, 0, none⟩ = some (.int .i64 a) ∧ w1.cell? ⟨vb, 1, none⟩ = some (.int .i64 b) ∧ w1.cell? ⟨vb, 2, none⟩ = some (.int .i64 c) ∧ w1.cell? ⟨vb, 3, none⟩ = some (.int .i64 d) := by
    subst hw1 hvb
    exact ⟨by simp, by simp, by simp, by simp⟩
  cases h1 : inS a b with
  | false =>
    go_enter Try.func34, Try.ntmps34
    go_wp2_with fail
    rw [← hvb, ← hw1]
    clear hvb hw1
    refine (inSheet_at w1 a b).mono ?_
    rw [h1]
    rintro e w2 ⟨rfl, k2⟩
    go_wp2_with fail
    go_ret
    exact ⟨1, V, rfl, Kp.of_no (HK1.out.trans k2), hL.on (HK1.out.trans k2), hV, by decide, by decide⟩
  | true =>
    cases h2 : inS c d with
    | false =>
      go_enter Try.func34, Try.ntmps34
      go_wp2_with fail
      rw [← hvb, ← hw1]
      clear hvb hw1
      refine (inSheet_at w1 a b).mono ?_
      rw [h1]
      rintro e w2 ⟨rfl, k2⟩
      have x2 := k2.cell v2 id
      have x3 := k2.cell v3 id
      go_wp2_with fail
      refine (inSheet_at w2 c d).mono ?_
      rw [h2]
      rintro e w3 ⟨rfl, k3⟩
      go_wp2_with fail
      go_ret
      exact ⟨1, V, rfl, Kp.of_no ((HK1.out.trans k2).trans k3), hL.on ((HK1.out.trans k2).trans k3), hV, by decide, by decide⟩
    | true =>
      obtain ⟨an, bn, rfl, rfl, ha, hb⟩ := inS_nat h1
      obtain ⟨cn, dn, rfl, rfl, hc, hd⟩ := inS_nat h2
      by_cases g1 : cn < an
      · go_enter Try.func34, Try.ntmps34
        go_wp2_with fail
        rw [← hvb, ← hw1]
        clear hvb hw1
        refine (inSheet_at w1 an bn).mono ?_
        rw [h1]
        rintro e w2 ⟨rfl, k2⟩
        have x2 := k2.cell v2 id
        have x3 := k2.cell v3 id
        go_wp2_with fail
        refine (inSheet_at w2 cn dn).mono ?_
        rw [h2]
        rintro e w3 ⟨rfl, k3⟩
        have y0 := k3.cell (k2.cell v0 id) id
        have y2 := k3.cell x2 id
        have dd : decide (cn < an) = true := by simp [g1]
        go_wp2_with fail
        go_ret
        exact ⟨1, V, rfl, Kp.of_no ((HK1.out.trans k2).trans k3), hL.on ((HK1.out.trans k2).trans k3), hV, by decide, by decide⟩
      · have dd : decide (cn < an) = false := by simp; omega
        by_cases g2 : dn < bn
        · have de : decide (dn < bn) = true := by simp [g2]
          go_enter Try.func34, Try.ntmps34
          go_wp2_with fail
          rw [← hvb, ← hw1]
          clear hvb hw1
          refine (inSheet_at w1 an bn).mono ?_
          rw [h1]
          rintro e w2 ⟨rfl, k2⟩
          have x2 := k2.cell v2 id
          have x3 := k2.cell v3 id
          go_wp2_with fail
          refine (inSheet_at w2 cn dn).mono ?_
          rw [h2]
          rintro e w3 ⟨rfl, k3⟩
          have y0 := k3.cell (k2.cell v0 id) id
          have y1 := k3.cell (k2.cell v1 id) id
          have y2 := k3.cell x2 id
          have y3 := k3.cell x3 id
          go_wp2_with fail
          go_ret
          exact ⟨1, V, rfl, Kp.of_no ((HK1.out.trans k2).trans k3), hL.on ((HK1.out.trans k2).trans k3), hV, by decide, by decide⟩
        · have de : decide (dn < bn) = false := by simp; omega
          have HOK : Hid (Vw.Ok ⟨an, bn, cn, dn⟩) := ⟨by simp only; omega, by simp only; omega, by simp only; omega, by simp only; omega⟩
          go_enter Try.func34, Try.ntmps34
          go_wp2_with fail
          rw [← hvb, ← hw1]
          clear hvb hw1
          refine (inSheet_at w1 an bn).mono ?_
          rw [h1]
          rintro e w2 ⟨rfl, k2⟩
          have x2 := k2.cell v2 id
          have x3 := k2.cell v3 id
          go_wp2_with fail
          refine (inSheet_at w2 cn dn).mono ?_
          rw [h2]
          rintro e w3 ⟨rfl, k3⟩
          have y0 := k3.cell (k2.cell v0 id) id
          have y1 := k3.cell (k2.cell v1 id) id
          have y2 := k3.cell x2 id
          have y3 := k3.cell x3 id
          go_wp2_with fail
          refine (setView_at _ lb sb S V ⟨an, bn, cn, dn⟩ (hL.on ((HK1.out.trans k2).trans k3))).mono ?_
          rintro e w5 ⟨rfl, kp5, hL5⟩
          go_wp2_with fail
          go_ret
          exact ⟨0, ⟨an, bn, cn, dn⟩, rfl, (Kp.of_no ((HK1.out.trans k2).trans k3)).trans kp5, hL5, HOK.out, by decide, by decide⟩
end Go.Proofs.Qxb6500653a
