/-
  place (58).
-/
import Derived.Test.Qxb6500653aSpot
import Derived.Lib.Repeat
namespace Go.Proofs.Qxb6500653a
open Go.RowKit

def hashes (n : Nat) : ByteArray := ⟨(Lib.repeatL [35] n).toArray⟩
theorem hashes_size (n : Nat) : (hashes n).size = n := by
  show (Lib.repeatL [35] n).toArray.size = n
  rw [List.size_toArray, Lib.repeatL_length]; simp
/-- strings.Repeat("#", n), as the walks need it -/
def RepOk : Prop := ∀ (c : Nat) (w : World), c ≤ 100000 → Calls Try.prog 43 #[.string ⟨#[35]⟩, .int .i64 (c : Int)] w fun e w' => e = .returned (.string (hashes c)) ∧ Kp no w w'

/-- the text that is drawn, and where it begins -/
def placeT (s : Shn) (left right : Int) : ByteArray := if s.num = true ∧ right - left < (s.text.size : Int) then hashes (right - left).toNat else s.text
def placeS (s : Shn) (left right : Int) : Int :=
  if s.num = true ∧ right - left < (s.text.size : Int) then left
  else if s.al = 2 ∨ (s.al = 0 ∧ s.num = true) then right - (s.text.size : Int)
  else if s.al = 3 then left + ((right - left) - (s.text.size : Int)).tdiv 2
  else left

theorem half_small (x : Int) (h1 : -200000 ≤ x) (h2 : x ≤ 200000) : -100000 ≤ x.tdiv 2 ∧ x.tdiv 2 ≤ 100000 := by
  rcases Int.le_total 0 x with h | h
  · rw [Int.tdiv_eq_ediv_of_nonneg h]; omega
  · obtain ⟨y, rfl⟩ : ∃ y, x = -y := ⟨-x, by omega⟩
    rw [Int.neg_tdiv, Int.tdiv_eq_ediv_of_nonneg (by omega)]; omega

set_option maxRecDepth 100000 in
set_option maxHeartbeats 1000000 in
theorem place_at (hrep : RepOk) (w : World) (s : Shn) (left right : Int) (h1 : -20000 ≤ left) (h2 : left ≤ right) (h3 : right ≤ 20000) (ht : s.text.size ≤ 65536) (hal : s.al ≤ 3) :
    Calls Try.prog 58 #[s.v, .int .i64 left, .int .i64 right] w fun e w' => e = .returned (.tuple #[.string (placeT s left right), .int .i64 (placeS s left right)]) ∧ Kp no w w' := by
  obtain ⟨t, nb, al⟩ := s
  obtain ⟨wd, hwd⟩ : ∃ wd : Nat, right - left = (wd : Int) := ⟨(right - left).toNat, (Int.toNat_of_nonneg (by omega)).symm⟩
  have hw1 : wd ≤ 40000 := by omega
  unfold Shn.v
  simp only at ht hal
  have HT : Hid (placeT ⟨t, nb, al⟩ left right = if nb = true ∧ (wd : Int) < (t.size : Int) then hashes wd else t) := by show _ = _; unfold placeT; rw [hwd]; rfl
  have HS : Hid (placeS ⟨t, nb, al⟩ left right = if nb = true ∧ (wd : Int) < (t.size : Int) then left
  else if al = 2 ∨ (al = 0 ∧ nb = true) then right - (t.size : Int)
  else if al = 3 then left + ((wd : Int) - (t.size : Int)).tdiv 2
  else left) := by show _ = _; unfold placeS; rw [hwd]
  by_cases hn : nb = true ∧ wd < t.size
  · obtain ⟨rfl, hn⟩ := hn
    have d1 : decide (wd < t.size) = true := by simp [hn]
    have HT2 : Hid (placeT ⟨t, true, al⟩ left right = hashes wd) := by show _ = _; rw [HT.out, if_pos ⟨rfl, by omega⟩]
    have HS2 : Hid (placeS ⟨t, true, al⟩ left right = left) := by show _ = _; rw [HS.out, if_pos ⟨rfl, by omega⟩]
    go_enter Try.func58, Try.ntmps58
    go_wp2_with fail
    refine (hrep wd _ (by omega)).mono ?_
    rintro e w5 ⟨rfl, k5⟩
    go_wp2_with fail
    go_ret2
    exact ⟨by rw [HT2.out, HS2.out]; rfl, ((Kp.refl _ _).alloc _).trans k5⟩
  · have HT2 : Hid (placeT ⟨t, nb, al⟩ left right = t) := by show _ = _; rw [HT.out, if_neg (fun ⟨a, b⟩ => hn ⟨a, by omega⟩)]
    have HS2 : Hid (placeS ⟨t, nb, al⟩ left right = if al = 2 ∨ (al = 0 ∧ nb = true) then right - (t.size : Int)
  else if al = 3 then left + ((wd : Int) - (t.size : Int)).tdiv 2
  else left) := by show _ = _; rw [HS.out, if_neg (fun ⟨a, b⟩ => hn ⟨a, by omega⟩)]
    clear HS HT
    have dn : ∀ b : Bool, nb = b → b = true → decide (wd < t.size) = false := fun b e1 e2 => by
      have : ¬ wd < t.size := fun h => hn ⟨e1.trans e2, h⟩
      simp; omega
    have hc : al = 0 ∨ al = 1 ∨ al = 2 ∨ al = 3 := by omega
    clear hal
    cases nb with
    | true =>
      have d1 := dn true rfl rfl
      rcases hc with rfl | rfl | rfl | rfl
      · have HS3 : Hid (placeS ⟨t, true, 0⟩ left right = right - (t.size : Int)) := by show _ = _; rw [HS2.out]; simp
        go_enter Try.func58, Try.ntmps58
        go_wp2_with fail
        go_quiet (fail)
        go_wp2_with fail
        go_ret2
        exact ⟨by rw [HT2.out, HS3.out]; rfl, ((Kp.refl _ _).alloc _).drewN _⟩
      · have HS3 : Hid (placeS ⟨t, true, 1⟩ left right = left) := by show _ = _; rw [HS2.out]; simp
        go_enter Try.func58, Try.ntmps58
        go_wp2_with fail
        go_ret2
        exact ⟨by rw [HT2.out, HS3.out]; rfl, ((Kp.refl _ _).alloc _)⟩
      · have HS3 : Hid (placeS ⟨t, true, 2⟩ left right = right - (t.size : Int)) := by show _ = _; rw [HS2.out]; simp
        go_enter Try.func58, Try.ntmps58
        go_wp2_with fail
        go_quiet (fail)
        go_wp2_with fail
        go_ret2
        exact ⟨by rw [HT2.out, HS3.out]; rfl, ((Kp.refl _ _).alloc _).drewN _⟩
      · have hw : wrap64 (left + ((wd : Int) - (t.size : Int)).tdiv 2) = left + ((wd : Int) - (t.size : Int)).tdiv 2 := by
          have := half_small ((wd : Int) - (t.size : Int)) (by omega) (by omega)
          unfold wrap64
          omega
        have HS3 : Hid (placeS ⟨t, true, 3⟩ left right = wrap64 (left + ((wd : Int) - (t.size : Int)).tdiv 2)) := by show _ = _; rw [HS2.out, hw]; simp
        clear hw
        go_enter Try.func58, Try.ntmps58
        go_wp2_with fail
        go_quiet (fail)
        go_wp2_with fail
        go_ret2
        exact ⟨by rw [HT2.out, HS3.out]; rfl, ((Kp.refl _ _).alloc _).drewN _⟩
    | false =>
      rcases hc with rfl | rfl | rfl | rfl
      · have HS3 : Hid (placeS ⟨t, false, 0⟩ left right = left) := by show _ = _; rw [HS2.out]; simp
        go_enter Try.func58, Try.ntmps58
        go_wp2_with fail
        go_ret2
        exact ⟨by rw [HT2.out, HS3.out]; rfl, ((Kp.refl _ _).alloc _)⟩
      · have HS3 : Hid (placeS ⟨t, false, 1⟩ left right = left) := by show _ = _; rw [HS2.out]; simp
        go_enter Try.func58, Try.ntmps58
        go_wp2_with fail
        go_ret2
        exact ⟨by rw [HT2.out, HS3.out]; rfl, ((Kp.refl _ _).alloc _)⟩
      · have HS3 : Hid (placeS ⟨t, false, 2⟩ left right = right - (t.size : Int)) := by show _ = _; rw [HS2.out]; simp
        go_enter Try.func58, Try.ntmps58
        go_wp2_with fail
        go_quiet (fail)
        go_wp2_with fail
        go_ret2
        exact ⟨by rw [HT2.out, HS3.out]; rfl, ((Kp.refl _ _).alloc _).drewN _⟩
      · have hw : wrap64 (left + ((wd : Int) - (t.size : Int)).tdiv 2) = left + ((wd : Int) - (t.size : Int)).tdiv 2 := by
          have := half_small ((wd : Int) - (t.size : Int)) (by omega) (by omega)
          unfold wrap64
          omega
        have HS3 : Hid (placeS ⟨t, false, 3⟩ left right = wrap64 (left + ((wd : Int) - (t.size : Int)).tdiv 2)) := by show _ = _; rw [HS2.out, hw]; simp
        clear hw
        go_enter Try.func58, Try.ntmps58
        go_wp2_with fail
        go_quiet (fail)
        go_wp2_with fail
        go_ret2
        exact ⟨by rw [HT2.out, HS3.out]; rfl, ((Kp.refl _ _).alloc _).drewN _⟩
end Go.Proofs.Qxb6500653a
