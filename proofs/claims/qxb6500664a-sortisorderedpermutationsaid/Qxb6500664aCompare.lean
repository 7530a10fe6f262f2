/-
  'codec.Compare' (function 10), the three 'less' closures (9, 25, 27), 'sameBytes' (13), 'codecm.Compare' (14).
-/
import Derived.Test.Qxb6500664aScript
import Derived.Test.Qxb6500664aOrd
import Derived.WalkKit
import Derived.WalkSpells
import Derived.WalkLawsBesides
import Derived.Deep.QuietTactic
import Derived.BigQuiet
namespace Go.Proofs.Qxb6500664a
open Go.RowKit

theorem cmp_at (l1 l2 : List UInt8) (k : Nat) (h1 : k < l1.length) (h2 : k < l2.length) :
    Ord.cmp (l1.drop k) (l2.drop k) = if l1[k].toNat < l2[k].toNat then -1 else if l2[k].toNat < l1[k].toNat then 1 else Ord.cmp (l1.drop (k + 1)) (l2.drop (k + 1)) := by
  rw [List.drop_eq_getElem_cons h1, List.drop_eq_getElem_cons h2]; rfl

theorem cmp_end (l1 l2 : List UInt8) (k : Nat) (h1 : k ≤ l1.length) (h2 : k ≤ l2.length) (h : k = l1.length ∨ k = l2.length) :
    Ord.cmp (l1.drop k) (l2.drop k) = if l1.length < l2.length then -1 else if l2.length < l1.length then 1 else 0 := by
  by_cases a : k = l1.length
  · rw [List.drop_of_length_le (by omega)]
    by_cases b : k = l2.length
    · rw [List.drop_of_length_le (by omega), if_neg (by omega), if_neg (by omega)]; rfl
    · rw [List.drop_eq_getElem_cons (show k < l2.length by omega), if_pos (by omega)]; rfl
  · rw [List.drop_eq_getElem_cons (show k < l1.length by omega), List.drop_of_length_le (show l2.length ≤ k by omega), if_neg (by omega), if_pos (by omega)]; rfl

theorem ret_i64 {a b : Int} (h : a = b) : Ending.returned (.int .i64 a) = .returned (.int .i64 b) := by rw [h]

set_option maxHeartbeats 1000000 in
theorem compare_both (w : World) (b1 o1 c1 b2 o2 c2 : Nat) (l1 l2 : List UInt8) (hl1 : l1.length ≤ 140737488351232) (hl2 : l2.length ≤ 140737488351232)
    (h1 : ∀ j (hj : j < l1.length), w.cell? ⟨b1, o1 + j, none⟩ = some (.int .u8 (l1[j].toNat : Int))) (h2 : ∀ j (hj : j < l2.length), w.cell? ⟨b2, o2 + j, none⟩ = some (.int .u8 (l2[j].toNat : Int))) :
    Calls Try.prog 10 #[.slice (some ⟨b1, o1, none⟩) l1.length c1, .slice (some ⟨b2, o2, none⟩) l2.length c2] w fun e w' => e = .returned (.int .i64 (Ord.cmp l1 l2)) ∧ ∃ n, w' = w.drewN n := by
  rcases (show l1.length < l2.length ∨ l2.length < l1.length ∨ (l1.length ≤ l2.length ∧ l2.length ≤ l1.length) by omega) with hle | hle | ⟨hle, hle2⟩
  all_goals
    go_enter Try.func10, Try.ntmps10
    go_wp2
    go_loopw [6] (fun i wr => ∃ (k n : Nat), k ≤ l1.length ∧ k ≤ l2.length ∧ i = .int .i64 (k : Int) ∧ Hid (Ord.cmp (l1.drop k) (l2.drop k) = Ord.cmp l1 l2) ∧ wr = w.drewN n) (fun i _ => l1.length - (intOf i).toNat)
    case atStart => exact ⟨0, 0, by omega, by omega, rfl, by show Ord.cmp _ _ = _; simp, rfl⟩
    case round =>
      obtain ⟨k, n, hk1, hk2, rfl, HS, rfl⟩ := hrel
      by_cases hlt : k < l1.length ∧ k < l2.length
      · obtain ⟨hlt1, hlt2⟩ := hlt
        have g1 := h1 k hlt1
        have g2 := h2 k hlt2
        have hs := HS.out
        rw [cmp_at l1 l2 k hlt1 hlt2] at hs
        obtain ⟨x, hx⟩ : ∃ x, x = l1[k].toNat := ⟨_, rfl⟩
        obtain ⟨y, hy⟩ : ∃ y, y = l2[k].toNat := ⟨_, rfl⟩
        rw [← hx] at g1 hs
        rw [← hy] at g2 hs
        clear hx hy h1 h2
        rcases Nat.lt_trichotomy x y with hxy | hxy | hxy
        · have HF : Hid (Ord.cmp l1 l2 = -1) := by show Ord.cmp l1 l2 = -1; rw [← hs, if_pos hxy]
          clear hs HS
          have e1 : ((x : Int) != (y : Int)) = true := by rw [bne_iff_ne]; omega
          go_wp2
          go_quiet (fail)
          go_wp2
          go_quiet (fail)
          go_wp2
          go_ret
          exact ⟨ret_i64 HF.out.symm, _, by rw [World.drewN_drewN, World.drewN_drewN]⟩
        · have HF : Hid (Ord.cmp (l1.drop (k + 1)) (l2.drop (k + 1)) = Ord.cmp l1 l2) := by show Ord.cmp _ _ = _; rw [← hs, if_neg (by omega), if_neg (by omega)]
          clear hs HS
          have e1 : ((x : Int) != (y : Int)) = false := by rw [bne_eq_false_iff_eq]; omega
          go_wp2
          go_quiet (fail)
          go_wp2
          go_roundw
          case rel => exact ⟨k + 1, _, by omega, by omega, by go_num, HF.out, rfl⟩
          case measure => simp [intOf]; omega
        · have HF : Hid (Ord.cmp l1 l2 = 1) := by show Ord.cmp l1 l2 = 1; rw [← hs, if_neg (by omega), if_pos hxy]
          clear hs HS
          have e1 : ((x : Int) != (y : Int)) = true := by rw [bne_iff_ne]; omega
          go_wp2
          go_quiet (fail)
          go_wp2
          go_quiet (fail)
          go_wp2
          go_ret
          exact ⟨ret_i64 HF.out.symm, _, by rw [World.drewN_drewN, World.drewN_drewN]⟩
      · have hs := HS.out
        rw [cmp_end l1 l2 k hk1 hk2 (by omega)] at hs
        have HF : Hid (_ = _) := hs
        clear hs HS h1 h2
        go_wp2
        go_ret
        exact ⟨ret_i64 (HF.out.symm.trans (by first | rw [if_pos (by omega)] | rw [if_neg (by omega), if_pos (by omega)] | rw [if_neg (by omega), if_neg (by omega)])).symm, _, rfl⟩

set_option maxHeartbeats 400000 in
theorem compare_zero (w : World) (a1 a2 : Option Addr) (n1 n2 c1 c2 : Nat) (h1 : n1 ≤ 140737488351232) (h2 : n2 ≤ 140737488351232) (h : n1 = 0 ∨ n2 = 0) :
    Calls Try.prog 10 #[.slice a1 n1 c1, .slice a2 n2 c2] w fun e w' => e = .returned (.int .i64 (if n1 < n2 then -1 else if n2 < n1 then 1 else 0)) ∧ w' = w := by
  rcases Nat.eq_zero_or_pos n1 with z1 | z1
  · subst z1
    rcases Nat.eq_zero_or_pos n2 with z2 | z2
    · subst z2
      go_enter Try.func10, Try.ntmps10
      go_wp2
      refine wp_loop_rounds 1 ?_
      rw [rounds_succ]
      go_wp2
      go_ret
      exact ⟨rfl, rfl⟩
    · have t : (0 : Int) < (n2 : Int) := by omega
      rw [if_pos z2]
      go_enter Try.func10, Try.ntmps10
      go_wp2
      refine wp_loop_rounds 1 ?_
      rw [rounds_succ]
      go_wp2
      go_ret
      exact ⟨rfl, rfl⟩
  · have z2 : n2 = 0 := by omega
    subst z2
    rw [if_neg (by omega), if_pos z1]
    go_enter Try.func10, Try.ntmps10
    go_wp2
    refine wp_loop_rounds 1 ?_
    rw [rounds_succ]
    go_wp2
    go_ret
    exact ⟨rfl, rfl⟩

/-- 'codec.Compare' AT ALL BYTES. -/
theorem compare_any (w : World) (s1 s2 : BSl) (h1 : s1.At w) (h2 : s2.At w) :
    Calls Try.prog 10 #[.slice s1.a s1.l.length s1.cap, .slice s2.a s2.l.length s2.cap] w fun e w' => e = .returned (.int .i64 (Ord.cmp s1.l s2.l)) ∧ ∃ n, w' = w.drewN n := by
  have hl1 := Nat.le_trans h1.le h1.max
  have hl2 := Nat.le_trans h2.le h2.max
  by_cases hz : s1.l.length = 0 ∨ s2.l.length = 0
  · refine (compare_zero w s1.a s2.a s1.l.length s2.l.length s1.cap s2.cap hl1 hl2 hz).mono fun e w' ⟨e1, e2⟩ => ⟨?_, 0, e2⟩
    rw [e1]
    have := cmp_end s1.l s2.l 0 (by omega) (by omega) (by omega)
    simp only [List.drop_zero] at this
    rw [this]
  · obtain ⟨b1, o1, e1, c1⟩ := h1.at_ (by omega)
    obtain ⟨b2, o2, e2, c2⟩ := h2.at_ (by omega)
    rw [e1, e2]
    exact compare_both w b1 o1 s1.cap b2 o2 s2.cap s1.l s2.l hl1 hl2 c1 c2
end Go.Proofs.Qxb6500664a
