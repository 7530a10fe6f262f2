/-
  'codeclaw.zzSmall1' (function 7): it only reads; where it answers true the script is small.
-/
import Derived.Test.Qxb6500664aScript
import Derived.WalkKit
namespace Go.Proofs.Qxb6500664a
open Go.RowKit

/-- the sum of the first k -/
def tot (f : Nat → Nat) : Nat → Nat
  | 0 => 0
  | k + 1 => tot f k + f k
theorem tot_le (f : Nat → Nat) {i k : Nat} (h : i < k) : f i ≤ tot f k := by
  induction k with
  | zero => omega
  | succ k ih =>
    simp only [tot]
    rcases Nat.lt_or_ge i k with hi | hi
    · have := ih hi; omega
    · have : i = k := by omega
      subst this; omega
def fl (d : OD) (j : Nat) : Nat := (d.F j).data.l.length
def pl (d : OD) (j : Nat) : Nat := (d.P j).key.l.length + (d.P j).val.l.length
/-- the members of one step -/
def wt (d : OD) : Nat := d.data.l.length + d.key.l.length + d.fn + tot (fl d) d.fn + d.pn + tot (pl d) d.pn
/-- the whole script is small -/
def SmallS (n : Nat) (D : Nat → OD) : Prop := n + tot (fun i => wt (D i)) n ≤ 65536

theorem ret_bool {a b : Bool} (h : a = b) : Ending.returned (.bool a) = .returned (.bool b) := by rw [h]

set_option maxHeartbeats 400000 in
theorem small_nil (w : World) (a : Option Addr) (cap : Nat) :
    Calls Try.prog 7 #[.slice a 0 cap] w fun e w' => e = .returned (.bool true) ∧ w' = w := by
  go_enter Try.func7, Try.ntmps7
  go_wp2
  refine wp_loop_rounds 1 ?_
  rw [rounds_succ]
  go_wp2
  go_ret
  exact ⟨rfl, rfl⟩

/-- what zzSmall1 leaves -/
def SmallPost (n : Nat) (D : Nat → OD) (w : World) (e : Ending) (w' : World) : Prop := ∃ r : Bool, e = .returned (.bool r) ∧ w' = w ∧ (r = true → SmallS n D)
theorem SmallPost.no (n : Nat) (D : Nat → OD) (w : World) : SmallPost n D w (.returned (.bool false)) w := ⟨false, rfl, rfl, fun h => by cases h⟩
theorem SmallPost.yes {n : Nat} {D : Nat → OD} (w : World) (h : SmallS n D) : SmallPost n D w (.returned (.bool true)) w := ⟨true, rfl, rfl, fun _ => h⟩

set_option maxHeartbeats 1000000 in
set_option maxRecDepth 100000 in
theorem small_some (w : World) (b off n cap : Nat) (D : Nat → OD) (hn : n ≤ 140737488351232) (hD : ∀ i, i < n → OpAt w b (off + i * 8) (D i)) :
    Calls Try.prog 7 #[.slice (some ⟨b, off, none⟩) n cap] w (SmallPost n D w) := by
  by_cases hbig : 65536 < n
  · go_enter Try.func7, Try.ntmps7
    go_wp2
    go_ret
    exact SmallPost.no n D w
  have hd : decide ((65536 : Int) < (n : Int)) = false := by simp; omega
  go_enter Try.func7, Try.ntmps7
  go_wp2
  go_loop [3, 4, 5, 6] (fun m i _ _ => ∃ k c : Nat, k ≤ n ∧ i = .int .i64 (k : Int) ∧ m = .int .i64 (c : Int) ∧ c ≤ 65536 ∧ n + tot (fun i => wt (D i)) k ≤ c) (fun _ i _ _ => n - (intOf i).toNat)
  case atStart => exact ⟨0, n, Nat.zero_le _, rfl, rfl, by omega, by simp [tot]⟩
  case round =>
    obtain ⟨k, c, hk, rfl, rfl, hc, hs⟩ := hrel
    by_cases hlt : k < n
    · have hop := hD k hlt
      have q3 := hop.c3
      have q5 := hop.c5
      have q6 := hop.c6
      have q7 := hop.c7
      have hdm : (D k).data.l.length ≤ 140737488351232 := Nat.le_trans hop.data.le hop.data.max
      have hkm : (D k).key.l.length ≤ 140737488351232 := Nat.le_trans hop.key.le hop.key.max
      have hfm : (D k).fn ≤ 140737488351232 := Nat.le_trans hop.fs.le hop.fs.max
      have hpm : (D k).pn ≤ 140737488351232 := Nat.le_trans hop.ps.le hop.ps.max
      have hfs := hop.fs
      have hps := hop.ps
      have HT : Hid (tot (fun i => wt (D i)) (k + 1) = tot (fun i => wt (D i)) k + wt (D k)) := rfl
      have HW : Hid (wt (D k) = (D k).data.l.length + (D k).key.l.length + (D k).fn + tot (fl (D k)) (D k).fn + (D k).pn + tot (pl (D k)) (D k).pn) := rfl
      clear hop
      go_wp2
      all_goals first
        | (go_ret; exact SmallPost.no n D w)
        | skip
      go_loop [3, 5] (fun m i => ∃ j c1 : Nat, j ≤ (D k).fn ∧ i = .int .i64 (j : Int) ∧ m = .int .i64 (c1 : Int) ∧ c1 ≤ 65536 ∧ c + (D k).data.l.length + (D k).key.l.length + (D k).fn + tot (fl (D k)) j ≤ c1) (fun _ i => (D k).fn - (intOf i).toNat)
      case atStart => exact ⟨0, c + (D k).data.l.length + (D k).key.l.length + (D k).fn, Nat.zero_le _, rfl, by go_num, by omega, by simp [tot]⟩
      case round =>
        obtain ⟨j, c1, hj, rfl, rfl, hc1, hs1⟩ := hrel
        by_cases hjl : j < (D k).fn
        · obtain ⟨fb, fo, hfa, hfc⟩ := hfs.at_ (by omega)
          obtain ⟨-, -, g2, g3⟩ := hfc j hjl
          have hg3 : ((D k).F j).data.l.length ≤ 140737488351232 := Nat.le_trans g3.le g3.max
          have HS : Hid (tot (fl (D k)) (j + 1) = tot (fl (D k)) j + ((D k).F j).data.l.length) := rfl
          rw [hfa] at q6
          clear g3 hfc hfa hfs
          go_wp2
          all_goals first
            | (go_ret; exact SmallPost.no n D w)
            | skip
          go_round
          case rel => exact ⟨j + 1, c1 + ((D k).F j).data.l.length, by omega, by go_num, by go_num, by omega, by rw [HS.out]; omega⟩
          case measure => simp [intOf]; omega
        · have hj0 : j = (D k).fn := by omega
          have HS1 : Hid (c + (D k).data.l.length + (D k).key.l.length + (D k).fn + tot (fl (D k)) (D k).fn ≤ c1) := by rw [hj0] at hs1; exact hs1
          clear hs1 hj0 hfs
          go_wp2
          all_goals first
            | (go_ret; exact SmallPost.no n D w)
            | skip
          go_loop [3, 6] (fun m i => ∃ l c2 : Nat, l ≤ (D k).pn ∧ i = .int .i64 (l : Int) ∧ m = .int .i64 (c2 : Int) ∧ c2 ≤ 65536 ∧ c1 + (D k).pn + tot (pl (D k)) l ≤ c2) (fun _ i => (D k).pn - (intOf i).toNat)
          case atStart => exact ⟨0, c1 + (D k).pn, Nat.zero_le _, rfl, by go_num, by omega, by simp [tot]⟩
          case round =>
            obtain ⟨l, c2, hl, rfl, rfl, hc2, hs2⟩ := hrel
            by_cases hll : l < (D k).pn
            · obtain ⟨fb, fo, hpa, hpc⟩ := hps.at_ (by omega)
              obtain ⟨g0, g1, g2, g3⟩ := hpc l hll
              have hg2 : ((D k).P l).key.l.length ≤ 140737488351232 := Nat.le_trans g2.le g2.max
              have hg3 : ((D k).P l).val.l.length ≤ 140737488351232 := Nat.le_trans g3.le g3.max
              have HS : Hid (tot (pl (D k)) (l + 1) = tot (pl (D k)) l + (((D k).P l).key.l.length + ((D k).P l).val.l.length)) := rfl
              rw [hpa] at q7
              clear g2 g3 hpc hpa hps
              go_wp2
              all_goals first
                | (go_ret; exact SmallPost.no n D w)
                | skip
              go_round
              case rel => exact ⟨l + 1, c2 + ((D k).P l).key.l.length + ((D k).P l).val.l.length, by omega, by go_num, by go_num, by omega, by rw [HS.out]; omega⟩
              case measure => simp [intOf]; omega
            · have hl0 : l = (D k).pn := by omega
              have HS2 : Hid (c1 + (D k).pn + tot (pl (D k)) (D k).pn ≤ c2) := by rw [hl0] at hs2; exact hs2
              clear hs2 hl0 hps
              go_wp2
              go_round
              case rel =>
                have x1 := HS1.out
                have x2 := HS2.out
                exact ⟨k + 1, c2, by omega, by go_num, rfl, hc2, by rw [HT.out, HW.out]; omega⟩
              case measure => simp [intOf]; omega
    · have hk0 : k = n := by omega
      have HS1 : Hid (SmallS n D) := by show n + _ ≤ 65536; rw [hk0] at hs; omega
      clear hs hk0
      go_wp2
      go_ret
      exact SmallPost.yes w HS1.out

/-- zzSmall1, at every script. -/
theorem small_any (w : World) (a : Option Addr) (n cap : Nat) (D : Nat → OD) (h : ScriptAt w a n cap D) : Calls Try.prog 7 #[.slice a n cap] w (SmallPost n D w) := by
  rcases Nat.eq_zero_or_pos n with h0 | h0
  · subst h0
    exact (small_nil w a cap).mono fun e w' ⟨h1, h2⟩ => ⟨true, h1, h2, fun _ => by simp [SmallS, tot]⟩
  · obtain ⟨b, off, rfl, hD⟩ := h.at_ h0
    exact small_some w b off n cap D (Nat.le_trans h.le h.max) hD
end Go.Proofs.Qxb6500664a
