/-
  reveal (47).
-/
import Derived.Test.Qxb6500653aTextLine
namespace Go.Proofs.Qxb6500653a
open Go.RowKit

/-- the sum of the first k -/
def sums (f : Nat → Nat) : Nat → Nat
  | 0 => 0
  | k + 1 => sums f k + f k
theorem sums_le (f : Nat → Nat) (c : Nat) (h : ∀ i, f i ≤ c) (k : Nat) : sums f k ≤ k * c := by
  induction k with
  | zero => simp [sums]
  | succ k ih => simp only [sums]; have := h k; rw [Nat.succ_mul]; omega
theorem sums_mono (f : Nat → Nat) {i k : Nat} (h : i ≤ k) : sums f i ≤ sums f k := by
  induction k with
  | zero => have : i = 0 := by omega
            subst this; exact Nat.le_refl _
  | succ k ih =>
    rcases Nat.lt_or_ge i (k + 1) with hi | hi
    · have := ih (by omega); simp only [sums]; omega
    · have : i = k + 1 := by omega
      subst this; exact Nat.le_refl _

/-- what reveal comes to where the line lies behind the present start -/
structure RevAt (sz : Nat → Nat) (line scroll room r : Nat) : Prop where
  lo : scroll ≤ r
  hi : r ≤ line
  fits : r = line ∨ sums sz (line + 1) ≤ room + sums sz r
  least : r = scroll ∨ room + sums sz (r - 1) < sums sz (line + 1)

def RevPost (sz : Nat → Nat) (line scroll room : Nat) (w : World) (e : Ending) (w' : World) : Prop := ∃ r : Nat, e = .returned (.int .i64 (r : Int)) ∧ RevAt sz line scroll room r ∧ ∃ q, w' = w.drewN q

set_option maxHeartbeats 1000000 in
theorem reveal_far (w : World) (ab : Nat) (A : Ax) (hA : AxAt w ab A) (hok : A.Ok) (line scroll : Nat) (hl : line < A.n) (hfz : A.fz ≤ line) (hs : scroll < line) :
    Calls Try.prog 47 #[.pointer (some ⟨ab, 0, none⟩), .int .i64 (line : Int), .int .i64 (scroll : Int), .int .i64 (A.m : Int)] w (RevPost A.sz line scroll (A.m - A.edge) w) := by
  have c0 := hA.c0
  have c6 := hA.c6
  have c8 := hA.c8
  have k1 := hok.n
  have k2 := hok.m
  have k3 := hok.edge
  have cl := hA.cz line hl
  have HZ : Hid (∀ i, i < A.n → w.cell? ⟨A.zb, i, none⟩ = some (.int .i64 (A.sz i : Int))) := hA.cz
  have HK : Hid (∀ i, A.sz i ≤ 80) := hok.sz
  have b1 : A.sz line ≤ 80 := hok.sz line
  have HS : Hid (∀ k, k ≤ 64 → sums A.sz k ≤ 5120) := fun k hk => Nat.le_trans (sums_le A.sz 80 hok.sz k) (by omega)
  have HL : Hid (sums A.sz (line + 1) = sums A.sz line + A.sz line) := rfl
  clear hA hok
  have e0 : (line : Int) < (A.n : Int) := by omega
  have d0 : decide (line < A.fz) = false := by simp; omega
  have d1 : decide (line ≤ scroll) = false := by simp; omega
  obtain ⟨room, hroom⟩ : ∃ room, room = A.m - A.edge := ⟨_, rfl⟩
  have hri : (A.m : Int) - (A.edge : Int) = (room : Int) := by omega
  rw [← hroom]
  have hr80 : room ≤ 80 := by omega
  clear hroom
  go_enter Try.func47, Try.ntmps47
  go_wp2_with fail
  go_quiet (fail)
  go_wp2_with fail
  go_loopw [11, 12] (fun fv tv wr => ∃ (r tot q : Nat), fv = .int .i64 (r : Int) ∧ tv = .int .i64 (tot : Int) ∧ scroll ≤ r ∧ r ≤ line ∧ tot ≤ 5120 ∧ Hid (tot + sums A.sz r = sums A.sz (line + 1)) ∧ Hid (r = line ∨ tot ≤ room) ∧ wr = w.drewN q) (fun fv _ _ => (intOf fv).toNat)
  case atStart => exact ⟨line, A.sz line, _, rfl, rfl, by omega, by omega, by omega, by show _ = _; rw [HL.out]; omega, Or.inl rfl, rfl⟩
  case round =>
    obtain ⟨r, tot, q, rfl, rfl, h1, h2, h3, H4, H5, rfl⟩ := hrel
    by_cases hr : scroll < r
    · obtain ⟨m, rfl⟩ : ∃ m, r = m + 1 := ⟨r - 1, by omega⟩
      have cz := HZ.out m (by omega)
      have bz : A.sz m ≤ 80 := HK.out m
      have HM : Hid (sums A.sz (m + 1) = sums A.sz m + A.sz m) := rfl
      have HB : Hid (sums A.sz (line + 1) ≤ 5120) := HS.out _ (by omega)
      have e1 : (m : Int) < (A.n : Int) := by omega
      have g1 : decide (scroll < m + 1) = true := by simp; omega
      by_cases hf : tot + A.sz m ≤ room
      · have g2 : decide (tot + A.sz m ≤ room) = true := by simp [hf]
        have H6 : Hid (tot + A.sz m + sums A.sz m = sums A.sz (line + 1)) := by show _ = _; have := H4.out; rw [HM.out] at this; omega
        go_wp2_with fail
        go_roundw
        case rel => exact ⟨m, tot + A.sz m, q, by go_num, by go_num, by omega, by omega, by have := H6.out; have := HB.out; omega, H6, Or.inr hf, rfl⟩
        case measure => simp [intOf]
      · have g2 : decide (tot + A.sz m ≤ room) = false := by simp; omega
        have HF : Hid (RevAt A.sz line scroll room (m + 1)) := by
          have x1 := H4.out
          have x2 := HM.out
          have x5 := H5.out
          exact ⟨by omega, by omega, x5.imp id (fun h => by omega), Or.inr (by rw [Nat.add_sub_cancel]; omega)⟩
        go_wp2_with fail
        go_ret
        exact ⟨m + 1, by rfl, HF.out, q, rfl⟩
    · have g1 : decide (scroll < r) = false := by simp; omega
      have HF : Hid (RevAt A.sz line scroll room r) := by
        have x1 := H4.out
        have x5 := H5.out
        exact ⟨by omega, by omega, x5.imp id (fun h => by omega), Or.inl (by omega)⟩
      go_wp2_with fail
      go_ret
      exact ⟨r, by rfl, HF.out, q, rfl⟩

set_option maxHeartbeats 400000 in
theorem reveal_frozen (w : World) (ab : Nat) (A : Ax) (hA : AxAt w ab A) (line scroll : Nat) (hfz : line < A.fz) (v : Value) :
    Calls Try.prog 47 #[.pointer (some ⟨ab, 0, none⟩), .int .i64 (line : Int), .int .i64 (scroll : Int), v] w fun e w' => e = .returned (.int .i64 (scroll : Int)) ∧ w' = w := by
  have c6 := hA.c6
  have d0 : decide (line < A.fz) = true := by simp; omega
  clear hA
  go_enter Try.func47, Try.ntmps47
  go_wp2_with fail
  go_ret
  exact ⟨rfl, rfl⟩

set_option maxHeartbeats 400000 in
theorem reveal_near (w : World) (ab : Nat) (A : Ax) (hA : AxAt w ab A) (line scroll : Nat) (hfz : A.fz ≤ line) (hs : line ≤ scroll) (v : Value) :
    Calls Try.prog 47 #[.pointer (some ⟨ab, 0, none⟩), .int .i64 (line : Int), .int .i64 (scroll : Int), v] w fun e w' => e = .returned (.int .i64 (line : Int)) ∧ w' = w := by
  have c6 := hA.c6
  have d0 : decide (line < A.fz) = false := by simp; omega
  have d1 : decide (line ≤ scroll) = true := by simp; omega
  clear hA
  go_enter Try.func47, Try.ntmps47
  go_wp2_with fail
  go_ret
  exact ⟨rfl, rfl⟩
end Go.Proofs.Qxb6500653a
