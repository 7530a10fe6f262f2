import Derived.Test.Qxb6500664aParse
namespace Go.Proofs.Qxb6500664a
open Go.RowKit

theorem neg_back (m : Nat) (h : (m : Int) ≤ 9223372036854775808) : wrap64 (IntKind.u64.wrap (-(m : Int))) = (if false = true then ((0 : Int), 13) else (-(m : Int), 0)).1 := by
  show _ = -(m : Int)
  rw [IntKind.wrap_u64]; unfold wrap64; omega

set_option maxHeartbeats 400000 in
theorem parse_sign (w : World) (b off cap : Nat) (hc0 : w.cell? ⟨b, off, none⟩ = some (.int .u8 45)) :
    Calls Try.prog 19 #[.slice (some ⟨b, off, none⟩) 1 cap] w fun e w' => e = .returned (.tuple #[.int .i64 0, .iface 58 (.int .u8 10)]) ∧ w' = w := by
  go_enter Try.func19, Try.ntmps19
  go_wp2
  all_goals
    go_ret2
    exact ⟨rfl, rfl⟩

set_option maxHeartbeats 1000000 in
theorem parse_neg (w : World) (b off cap : Nat) (l : List UInt8) (hn : 0 < l.length) (hlc : l.length + 1 ≤ cap) (hcap : cap ≤ maxLen)
    (hc0 : w.cell? ⟨b, off, none⟩ = some (.int .u8 45))
    (hc : ∀ j (hj : j < l.length), w.cell? ⟨b, off + 1 + j, none⟩ = some (.int .u8 (l[j].toNat : Int))) :
    Calls Try.prog 19 #[.slice (some ⟨b, off, none⟩) (l.length + 1) cap] w fun e w' =>
      e = .returned (.tuple #[.int .i64 (Dec.parseDs true l).1, errV (Dec.parseDs true l).2]) ∧ w' = w := by
  unfold maxLen at hcap
  have hnz : ((l.length : Int) + 1 == 0) = false := by rw [beq_eq_false_iff_ne]; omega
  have hnz2 : ((l.length : Int) == 0) = false := by rw [beq_eq_false_iff_ne]; omega
  have hp : (0 : Int) < (l.length : Int) := by omega
  have hc0' := hc 0 hn
  simp only [Nat.add_zero] at hc0'
  have n1 : ¬ cap = 1 := by omega
  go_enter Try.func19, Try.ntmps19
  go_wp2
  go_loop [7, 8, 32] (fun u o i => ∃ (k m : Nat) (q : Bool), k ≤ l.length ∧ u = .int .u64 (m : Int) ∧ o = .bool q ∧ i = .int .i64 (k : Int) ∧ (m : Int) ≤ 9223372036854775808 ∧ Dec.scan (Dec.limOf true) (l.drop k) m q = Dec.scan (Dec.limOf true) l 0 false)
    (fun _ _ i => l.length - (intOf i).toNat)
  case atStart => exact ⟨0, 0, false, Nat.zero_le _, rfl, rfl, rfl, by omega, rfl⟩
  case round =>
    obtain ⟨k, m, q, hk, rfl, rfl, rfl, hm, hs⟩ := hrel
    by_cases hlt : k < l.length
    · have hck := hc k hlt
      rw [scan_at _ l k m q hlt] at hs
      have hb := (l[k]).toNat_lt
      by_cases c1 : l[k].toNat = 45 ∨ l[k].toNat = 43
      · rw [if_pos c1] at hs
        have HF : Hid (Dec.parseDs true l = (0, 10)) := parseDs_code true l hn 10 (by decide) hs
        clear hs
        go_wp2
        all_goals first
          | (go_ret2; exact ⟨by rw [HF.out]; rfl, rfl⟩)
          | (exfalso; simp at *; omega)
      rw [if_neg c1] at hs
      by_cases c2 : l[k].toNat < 48 ∨ 57 < l[k].toNat
      · rw [if_pos c2] at hs
        have HF : Hid (Dec.parseDs true l = (0, 11)) := parseDs_code true l hn 11 (by decide) hs
        clear hs
        go_wp2
        all_goals first
          | (go_ret2; exact ⟨by rw [HF.out]; rfl, rfl⟩)
          | (exfalso; simp at *; omega)
      rw [if_neg c2] at hs
      have e1 : ((l[k].toNat : Int) == 45) = false := by rw [beq_eq_false_iff_ne]; omega
      have e2 : ((l[k].toNat : Int) == 43) = false := by rw [beq_eq_false_iff_ne]; omega
      have e3 : 48 ≤ (l[k].toNat : Int) := by omega
      have e4 : (l[k].toNat : Int) ≤ 57 := by omega
      clear c1 c2
      by_cases c3 : q = true ∨ (9223372036854775808 - (l[k].toNat - 48)) / 10 < m
      · rw [if_pos (by rw [Dec.limOf_true]; exact c3)] at hs
        have HF : Hid (_ = _) := hs
        clear hs
        have c3' : q = false → (9223372036854775808 - ((l[k].toNat : Int) - 48)) / 10 < (m : Int) := by
          intro hq; rcases c3 with h | h
          · rw [hq] at h; exact absurd h (by decide)
          · omega
        clear c3
        cases q with
        | true =>
          go_wp2
          go_round
          case rel => exact ⟨k + 1, m, true, by omega, rfl, rfl, by go_num, hm, HF.out⟩
          case measure => simp [intOf]; omega
        | false =>
          have c4 := c3' rfl
          clear c3'
          go_wp2
          go_round
          case rel => exact ⟨k + 1, m, true, by omega, rfl, rfl, by go_num, hm, HF.out⟩
          case measure => simp [intOf]; omega
      · rw [if_neg (by rw [Dec.limOf_true]; exact c3)] at hs
        have HF : Hid (_ = _) := hs
        clear hs
        have hq : q = false := by cases q <;> simp_all
        subst hq
        have hr : (m : Int) * 10 + ((l[k].toNat : Int) - 48) ≤ 9223372036854775808 := by simp at c3; omega
        have hr2 : ((m * 10 + (l[k].toNat - 48) : Nat) : Int) = (m : Int) * 10 + ((l[k].toNat : Int) - 48) := by omega
        have HR : Hid (_ = _) := hr2
        clear hr2
        have c4 : (m : Int) ≤ (9223372036854775808 - ((l[k].toNat : Int) - 48)) / 10 := by simp at c3; omega
        clear c3
        go_wp2
        go_round
        case rel => exact ⟨k + 1, m * 10 + (l[k].toNat - 48), false, by omega, by rw [HR.out], rfl, by go_num, by rw [HR.out]; exact hr, HF.out⟩
        case measure => simp [intOf]; omega
    · have hkl : k = l.length := by omega
      subst hkl
      rw [List.drop_of_length_le (Nat.le_refl _)] at hs
      have hf := parseDs_at true l hn
      rw [← hs] at hf
      clear hs
      have HF : Hid (Dec.parseDs true l = Dec.fin true l[0] l.length (0, m, q)) := hf
      clear hf hc
      have hb := (l[0]).toNat_lt
      by_cases c1 : l[0].toNat = 48
      · by_cases c2 : 1 < l.length
        · have HG : Hid (Dec.fin true l[0] l.length (0, m, q) = (0, 12)) := by
            show Dec.fin true l[0] l.length (0, m, q) = (0, 12)
            rw [Dec.fin, if_neg (by simp), if_pos ⟨c1, c2⟩]
          go_wp2
          all_goals first
            | (go_ret2; exact ⟨by rw [HF.out, HG.out]; rfl, rfl⟩)
            | (exfalso; simp at *; omega)
        · have HG : Hid (Dec.fin true l[0] l.length (0, m, q) = (0, 10)) := by
            show Dec.fin true l[0] l.length (0, m, q) = (0, 10)
            rw [Dec.fin, if_neg (by simp), if_neg (fun h => c2 h.2), if_pos ⟨c1, rfl⟩]
          go_wp2
          all_goals first
            | (go_ret2; exact ⟨by rw [HF.out, HG.out]; rfl, rfl⟩)
            | (exfalso; simp at *; omega)
      · have hm0 : Hid (Dec.fin true l[0] l.length (0, m, q) = if q = true then (0, 13) else (-(m : Int), 0)) := by
          show Dec.fin true l[0] l.length (0, m, q) = _
          rw [Dec.fin, if_neg (by simp), if_neg (fun h => c1 h.1), if_neg (fun h => c1 h.1)]
          simp
        cases q with
        | true =>
          go_wp2
          go_ret2
          exact ⟨by rw [HF.out, hm0.out]; rfl, rfl⟩
        | false =>
          go_wp2
          go_ret2
          refine ⟨?_, rfl⟩
          rw [HF.out, hm0.out]
          exact ret_two (neg_back m hm) rfl

/-- THE READER, AT EVERY TEXT THAT IS NOT EMPTY. -/
theorem parse_full (w : World) (b off cap : Nat) (l : List UInt8) (hn : 0 < l.length) (hlc : l.length ≤ cap) (hcap : cap ≤ maxLen)
    (hc : ∀ j (hj : j < l.length), w.cell? ⟨b, off + j, none⟩ = some (.int .u8 (l[j].toNat : Int))) :
    Calls Try.prog 19 #[.slice (some ⟨b, off, none⟩) l.length cap] w fun e w' =>
      e = .returned (.tuple #[.int .i64 (Dec.parse l).1, errV (Dec.parse l).2]) ∧ w' = w := by
  cases l with
  | nil => simp at hn
  | cons c r =>
    by_cases h45 : c.toNat = 45
    · have hc0 : w.cell? ⟨b, off, none⟩ = some (.int .u8 45) := by
        have := hc 0 (by simp)
        simp only [Nat.add_zero, List.getElem_cons_zero, h45] at this
        exact this
      have e : Dec.parse (c :: r) = Dec.parseDs true r := by simp only [Dec.parse]; rw [if_pos h45]
      rw [e]
      cases r with
      | nil => exact parse_sign w b off cap hc0
      | cons d q =>
        refine parse_neg w b off cap (d :: q) (by simp) (by simpa using hlc) hcap hc0 (fun j hj => ?_)
        have := hc (j + 1) (by simpa using hj)
        rw [show off + 1 + j = off + (j + 1) from by omega, this]
        rfl
    · have e : Dec.parse (c :: r) = Dec.parseDs false (c :: r) := by simp only [Dec.parse]; rw [if_neg h45]
      rw [e]
      exact parse_pos w b off cap (c :: r) hn hlc hcap h45 hc

/-- .. AND AT EVERY TEXT. -/
theorem parse_any (w : World) (a : Addr) (cap : Nat) (l : List UInt8) (hlc : l.length ≤ cap) (hcap : cap ≤ maxLen)
    (hc : ∀ j (hj : j < l.length), w.cell? ⟨a.block, a.off + j, none⟩ = some (.int .u8 (l[j].toNat : Int))) (ha : a.spot = none) :
    Calls Try.prog 19 #[.slice (some a) l.length cap] w fun e w' =>
      e = .returned (.tuple #[.int .i64 (Dec.parse l).1, errV (Dec.parse l).2]) ∧ w' = w := by
  obtain ⟨b, off, spot⟩ := a
  simp only at ha hc
  subst ha
  rcases Nat.eq_zero_or_pos l.length with h0 | h0
  · obtain rfl := List.eq_nil_of_length_eq_zero h0
    exact parse_empty w _ cap
  · exact parse_full w b off cap l h0 hlc hcap hc
end Go.Proofs.Qxb6500664a
