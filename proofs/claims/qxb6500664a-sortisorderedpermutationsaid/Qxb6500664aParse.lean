/-
  THE READER OF DECIMAL TEXT ('codec.ParseInt', function 19): it computes 'Dec.parse'.
-/
import Derived.Test.Qxb6500664aRows
import Derived.Test.Qxb6500664aDec
import Derived.WalkKit
import Derived.WalkSpells
import Derived.WalkLawsBesides
namespace Go.Proofs.Qxb6500664a
open Go.RowKit

/-- an error of type Code as a value; 0: nil -/
def errV (k : Nat) : Value := if k = 0 then .nilIface else .iface 58 (.int .u8 k)

set_option maxHeartbeats 400000 in
theorem parse_empty (w : World) (a : Option Addr) (cap : Nat) :
    Calls Try.prog 19 #[.slice a 0 cap] w fun e w' => e = .returned (.tuple #[.int .i64 0, .iface 58 (.int .u8 9)]) ∧ w' = w := by
  go_enter Try.func19, Try.ntmps19
  go_wp2
  go_ret2
  exact ⟨rfl, rfl⟩

/-- the loop and what stands behind it, at a text with no minus sign -/
theorem scan_at (lim : Nat) (l : List UInt8) (k u : Nat) (o : Bool) (hk : k < l.length) :
    Dec.scan lim (l.drop k) u o = if (l[k].toNat : Nat) = 45 ∨ l[k].toNat = 43 then (10, 0, false)
      else if l[k].toNat < 48 ∨ 57 < l[k].toNat then (11, 0, false)
      else if o = true ∨ (lim - (l[k].toNat - 48)) / 10 < u then Dec.scan lim (l.drop (k + 1)) u true
      else Dec.scan lim (l.drop (k + 1)) (u * 10 + (l[k].toNat - 48)) false := by
  rw [List.drop_eq_getElem_cons hk]; rfl

theorem parseDs_at (neg : Bool) (l : List UInt8) (hn : 0 < l.length) : Dec.parseDs neg l = Dec.fin neg l[0] l.length (Dec.scan (Dec.limOf neg) l 0 false) := by
  cases l with
  | nil => simp at hn
  | cons d q => rfl

theorem parseDs_code (neg : Bool) (l : List UInt8) (hn : 0 < l.length) (k : Nat) (hk : k ≠ 0) (h : (k, 0, false) = Dec.scan (Dec.limOf neg) l 0 false) : Dec.parseDs neg l = (0, k) := by
  rw [parseDs_at neg l hn, ← h, Dec.fin]; exact if_pos hk

theorem ret_two {a b : Int} {x y : Value} (h : a = b) (h' : x = y) : Ending.returned (.tuple #[.int .i64 a, x]) = .returned (.tuple #[.int .i64 b, y]) := by rw [h, h']

set_option maxHeartbeats 1000000 in
theorem parse_pos (w : World) (b off cap : Nat) (l : List UInt8) (hn : 0 < l.length) (hlc : l.length ≤ cap) (hcap : cap ≤ maxLen) (h45 : l[0].toNat ≠ 45)
    (hc : ∀ j (hj : j < l.length), w.cell? ⟨b, off + j, none⟩ = some (.int .u8 (l[j].toNat : Int))) :
    Calls Try.prog 19 #[.slice (some ⟨b, off, none⟩) l.length cap] w fun e w' =>
      e = .returned (.tuple #[.int .i64 (Dec.parseDs false l).1, errV (Dec.parseDs false l).2]) ∧ w' = w := by
  unfold maxLen at hcap
  have hc0 := hc 0 hn
  simp only [Nat.add_zero] at hc0
  have hne : (((l[0].toNat : Nat) : Int) == 45) = false := by rw [beq_eq_false_iff_ne]; omega
  have hnz : ((l.length : Int) == 0) = false := by rw [beq_eq_false_iff_ne]; omega
  have hp : (0 : Int) < (l.length : Int) := by omega
  go_enter Try.func19, Try.ntmps19
  go_wp2
  go_loop [7, 8, 32] (fun u o i => ∃ (k m : Nat) (q : Bool), k ≤ l.length ∧ u = .int .u64 (m : Int) ∧ o = .bool q ∧ i = .int .i64 (k : Int) ∧ (m : Int) ≤ 9223372036854775807 ∧ Dec.scan (Dec.limOf false) (l.drop k) m q = Dec.scan (Dec.limOf false) l 0 false)
    (fun _ _ i => l.length - (intOf i).toNat)
  case atStart => exact ⟨0, 0, false, Nat.zero_le _, rfl, rfl, rfl, by omega, rfl⟩
  case round =>
    obtain ⟨k, m, q, hk, rfl, rfl, rfl, hm, hs⟩ := hrel
    by_cases hlt : k < l.length
    · have hck := hc k hlt
      rw [scan_at _ l k m q hlt] at hs
      have hb := (l[k]).toNat_lt
      by_cases c1 : l[k].toNat = 45 ∨ l[k].toNat = 43
      · rw [if_pos c1] at hs
        have HF : Hid (Dec.parseDs false l = (0, 10)) := parseDs_code false l hn 10 (by decide) hs
        clear hs
        go_wp2
        all_goals first
          | (go_ret2; exact ⟨by rw [HF.out]; rfl, rfl⟩)
          | (exfalso; simp at *; omega)
      rw [if_neg c1] at hs
      by_cases c2 : l[k].toNat < 48 ∨ 57 < l[k].toNat
      · rw [if_pos c2] at hs
        have HF : Hid (Dec.parseDs false l = (0, 11)) := parseDs_code false l hn 11 (by decide) hs
        clear hs
        go_wp2
        all_goals first
          | (go_ret2; exact ⟨by rw [HF.out]; rfl, rfl⟩)
          | (exfalso; simp at *; omega)
      rw [if_neg c2] at hs
      have e1 : ((l[k].toNat : Int) == 45) = false := by rw [beq_eq_false_iff_ne]; omega
      have e2 : ((l[k].toNat : Int) == 43) = false := by rw [beq_eq_false_iff_ne]; omega
      have e3 : 48 ≤ (l[k].toNat : Int) := by omega
      have e4 : (l[k].toNat : Int) ≤ 57 := by omega
      clear c1 c2
      by_cases c3 : q = true ∨ (9223372036854775807 - (l[k].toNat - 48)) / 10 < m
      · rw [if_pos (by rw [Dec.limOf_false]; exact c3)] at hs
        have HF : Hid (_ = _) := hs
        clear hs
        have c3' : q = false → (9223372036854775807 - ((l[k].toNat : Int) - 48)) / 10 < (m : Int) := by
          intro hq; rcases c3 with h | h
          · rw [hq] at h; exact absurd h (by decide)
          · omega
        clear c3
        cases q with
        | true =>
          go_wp2
          go_round
          case rel => exact ⟨k + 1, m, true, by omega, rfl, rfl, by go_num, hm, HF.out⟩
          case measure => simp [intOf]; omega
        | false =>
          have c4 := c3' rfl
          clear c3'
          go_wp2
          go_round
          case rel => exact ⟨k + 1, m, true, by omega, rfl, rfl, by go_num, hm, HF.out⟩
          case measure => simp [intOf]; omega
      · rw [if_neg (by rw [Dec.limOf_false]; exact c3)] at hs
        have HF : Hid (_ = _) := hs
        clear hs
        have hq : q = false := by cases q <;> simp_all
        subst hq
        have hr : (m : Int) * 10 + ((l[k].toNat : Int) - 48) ≤ 9223372036854775807 := by simp at c3; omega
        have hr2 : ((m * 10 + (l[k].toNat - 48) : Nat) : Int) = (m : Int) * 10 + ((l[k].toNat : Int) - 48) := by omega
        have HR : Hid (_ = _) := hr2
        clear hr2
        have c4 : (m : Int) ≤ (9223372036854775807 - ((l[k].toNat : Int) - 48)) / 10 := by simp at c3; omega
        clear c3
        go_wp2
        go_round
        case rel => exact ⟨k + 1, m * 10 + (l[k].toNat - 48), false, by omega, by rw [HR.out], rfl, by go_num, by rw [HR.out]; exact hr, HF.out⟩
        case measure => simp [intOf]; omega
    · have hkl : k = l.length := by omega
      subst hkl
      rw [List.drop_of_length_le (Nat.le_refl _)] at hs
      have hf := parseDs_at false l hn
      rw [← hs] at hf
      clear hs
      have HF : Hid (Dec.parseDs false l = Dec.fin false l[0] l.length (0, m, q)) := hf
      clear hf hc
      have hb := (l[0]).toNat_lt
      by_cases c1 : l[0].toNat = 48
      · by_cases c2 : 1 < l.length
        · have HG : Hid (Dec.fin false l[0] l.length (0, m, q) = (0, 12)) := by
            show Dec.fin false l[0] l.length (0, m, q) = (0, 12)
            rw [Dec.fin, if_neg (by simp), if_pos ⟨c1, c2⟩]
          go_wp2
          all_goals first
            | (go_ret2; exact ⟨by rw [HF.out, HG.out]; rfl, rfl⟩)
            | (exfalso; simp at *; omega)
        · -- the text is 0
          have hm0 : Hid (Dec.fin false l[0] l.length (0, m, q) = if q = true then (0, 13) else ((m : Int), 0)) := by
            show Dec.fin false l[0] l.length (0, m, q) = _
            rw [Dec.fin, if_neg (by simp), if_neg (fun h => c2 h.2), if_neg (by simp)]
            simp
          cases q with
          | true =>
            go_wp2
            go_ret2
            exact ⟨by rw [HF.out, hm0.out]; rfl, rfl⟩
          | false =>
            go_wp2
            go_ret2
            exact ⟨by rw [HF.out, hm0.out]; rfl, rfl⟩
      · have hm0 : Hid (Dec.fin false l[0] l.length (0, m, q) = if q = true then (0, 13) else ((m : Int), 0)) := by
          show Dec.fin false l[0] l.length (0, m, q) = _
          rw [Dec.fin, if_neg (by simp), if_neg (fun h => c1 h.1), if_neg (by simp)]
          simp
        cases q with
        | true =>
          go_wp2
          go_ret2
          exact ⟨by rw [HF.out, hm0.out]; rfl, rfl⟩
        | false =>
          go_wp2
          go_ret2
          exact ⟨by rw [HF.out, hm0.out]; rfl, rfl⟩
end Go.Proofs.Qxb6500664a
