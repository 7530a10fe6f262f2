/-
  newAxis (48): the walk.
-/
import Derived.Test.Qxb6500653aAxMk
namespace Go.Proofs.Qxb6500653a
open Go.RowKit

set_option maxRecDepth 100000 in
set_option maxHeartbeats 4000000 in
theorem newAxis_rows (w : World) (sb n m fz sc : Nat) (sz : Nat → Nat) (hid : Nat → Bool) (size : Nat → Nat)
    (hc1 : ∀ w' i, Kp no w w' → i < n → Calls Try.prog 93 #[.pointer (some ⟨sb, 0, none⟩), .int .i64 (i : Int)] w' fun e w'' => e = .returned (.int .i64 (size i : Int)) ∧ w'' = w')
    (hc2 : ∀ w' i, Kp no w w' → i < n → Calls Try.prog 94 #[.pointer (some ⟨sb, 0, none⟩), .int .i64 (i : Int)] w' fun e w'' => e = .returned (.bool (hid i)) ∧ w'' = w')
    (hsz : ∀ i, i < n → sz i = if hid i then 0 else size i) (ok : SzOk n m fz sc sz) :
    Calls Try.prog 48 #[.int .i64 (n : Int), .int .i64 (m : Int), .int .i64 (fz : Int), .int .i64 (sc : Int), .func (.method "RowHeight") #[.iface 38 (.pointer (some ⟨sb, 0, none⟩))] #[], .func (.method "RowHidden") #[.iface 38 (.pointer (some ⟨sb, 0, none⟩))] #[]] w (NAPost n m fz sc sz w) := by
  have hn := ok.hn
  have hm := ok.hm
  have hfz := ok.hfz
  have hsc := ok.hsc
  have HSZ := (show Hid _ from hsz)
  clear hsz
  have hm1 : ∀ w : World, (method 271 38 (.pointer (some ⟨sb, 0, none⟩)) "RowHeight").run Try.prog w = .ok (93, .pointer (some ⟨sb, 0, none⟩)) w := fun _ => by kernel_rfl
  have hm2 : ∀ w : World, (method 271 38 (.pointer (some ⟨sb, 0, none⟩)) "RowHidden").run Try.prog w = .ok (94, .pointer (some ⟨sb, 0, none⟩)) w := fun _ => by kernel_rfl
  have hmk := make_ints n (by omega)
  have hmk2 := make_ints m (by omega)
  have HC1 := (show Hid _ from hc1)
  have HC2 := (show Hid _ from hc2)
  clear hc1 hc2
  go_enter Try.func48, Try.ntmps48
  go_wp2_with fail
  go_cut [13] (fun s13 wx => ∃ ab zb tb lb, s13 = .pointer (some ⟨ab, 0, none⟩) ∧ AxSt w wx ab zb tb lb n m (fun _ => 0) (fun _ => 0) (fun _ => 0) (fun _ => 0))
  case first =>
    go_region
    all_goals go_wp2_with fail
    all_goals go_meet
    · obtain ⟨r0, r1, r2, k, e⟩ := three w n n m _ rfl
      exact ⟨_, _, _, _, rfl, (AxSt.made k r0 r1 r2 (by omega) (by omega) (by omega) (by omega) (by omega) (by omega) _ _ e).on (Kp.refl _ _).drew⟩
    · obtain ⟨r0, r1, r2, k, e⟩ := three w n m n _ rfl
      exact ⟨_, _, _, _, rfl, (AxSt.made k r0 r2 r1 (by omega) (by omega) (by omega) (by omega) (by omega) (by omega) _ _ e).on (Kp.refl _ _).drew⟩
    · obtain ⟨r0, r1, r2, k, e⟩ := three w n n m _ rfl
      exact ⟨_, _, _, _, rfl, (AxSt.made k r1 r0 r2 (by omega) (by omega) (by omega) (by omega) (by omega) (by omega) _ _ e).on (Kp.refl _ _).drew⟩
    · obtain ⟨r0, r1, r2, k, e⟩ := three w n m n _ rfl
      exact ⟨_, _, _, _, rfl, (AxSt.made k r2 r0 r1 (by omega) (by omega) (by omega) (by omega) (by omega) (by omega) _ _ e).on (Kp.refl _ _).drew⟩
    · obtain ⟨r0, r1, r2, k, e⟩ := three w m n n _ rfl
      exact ⟨_, _, _, _, rfl, (AxSt.made k r1 r2 r0 (by omega) (by omega) (by omega) (by omega) (by omega) (by omega) _ _ e).on (Kp.refl _ _).drew⟩
    · obtain ⟨r0, r1, r2, k, e⟩ := three w m n n _ rfl
      exact ⟨_, _, _, _, rfl, (AxSt.made k r2 r1 r0 (by omega) (by omega) (by omega) (by omega) (by omega) (by omega) _ _ e).on (Kp.refl _ _).drew⟩
  case rest =>
    obtain ⟨ab, zb, tb, lb, rfl, hst⟩ := hcut
    have c0 := hst.c0
    go_wp2_with fail
    clear c0
    go_loopw [38] (fun kv wr => ∃ k : Nat, k ≤ n ∧ kv = .int .i64 (k : Int) ∧ AxSt w wr ab zb tb lb n m (fun i => if i < k then (sz i : Int) else 0) (fun _ => 0) (fun _ => 0) (fun _ => 0)) (fun kv _ => n - (intOf kv).toNat)
    case atStart => exact ⟨0, Nat.zero_le _, rfl, hst.cong (fun i _ => by simp) (fun _ _ => rfl) (fun _ _ => rfl) (fun _ _ => rfl)⟩
    case round =>
      clear hst
      obtain ⟨k, hk, rfl, hst⟩ := hrel
      by_cases hlt : k < n
      · have c0 := hst.c0
        obtain ⟨zv, hz⟩ : ∃ v, wr.cell? ⟨zb, k, none⟩ = some (.int .i64 v) := ⟨_, hst.rz.at_ k hlt⟩
        have hf := hst.rz.free k
        have e0 : (k : Int) < (n : Int) := by omega
        go_wp2_with fail
        refine (HC2.out wr k hst.kp hlt).mono ?_
        rintro e w5 ⟨rfl, rfl⟩
        have HZ : Hid (sz k = if hid k then 0 else size k) := HSZ.out k hlt
        cases hh : hid k with
        | true =>
          rw [hh] at HZ
          clear hh
          go_wp2_with fail
          go_roundw
          case rel =>
            refine ⟨k + 1, by omega, by go_num, hst.cong (fun i _ => ?_) (fun _ _ => rfl) (fun _ _ => rfl) (fun _ _ => rfl)⟩
            have hz0 : sz k = 0 := HZ.out
            by_cases e : i = k
            · subst e; simp [hz0]
            · have : i < k + 1 ↔ i < k := by omega
              simp [this]
          case measure => simp [intOf]; omega
        | false =>
          rw [hh] at HZ
          clear hh
          go_wp2_with fail
          go_region_with (go_at_call 93; refine (HC1.out _ k (hst.kp.trans (by first | exact (Kp.refl no _).drew | exact Kp.refl no _)) hlt).mono ?_; rintro e w6 ⟨rfl, rfl⟩)
          all_goals go_wp2_with fail
          all_goals
            refine ⟨⟨k + 1, by omega, by go_num, ((hst.setZ hlt (size k : Int)).on (Kp.refl _ _).drew).cong (fun i _ => ?_) (fun _ _ => rfl) (fun _ _ => rfl) (fun _ _ => rfl)⟩, by simp [intOf]; omega⟩
            have hz0 : sz k = size k := HZ.out
            by_cases e : i = k
            · subst e; simp [hz0]
            · have : i < k + 1 ↔ i < k := by omega
              simp [this, e]
      · have hk' : n = k := by omega
        subst hk'
        have hst1 : AxSt w wr ab zb tb lb n m (fun i => (sz i : Int)) (fun i => if i < 0 then (sums sz i : Int) else 0) (fun _ => 0) (fun _ => 0) := hst.cong (fun i hi => by simp [hi]) (fun _ _ => by simp) (fun _ _ => rfl) (fun _ _ => rfl)
        clear hst
        go_wp2_with fail
        go_loopw [15, 16] (fun pv iv wr => ∃ k : Nat, k ≤ fz ∧ iv = .int .i64 (k : Int) ∧ pv = .int .i64 (sums sz k : Int) ∧ AxSt w wr ab zb tb lb n m (fun i => (sz i : Int)) (fun i => if i < k then (sums sz i : Int) else 0) (fun _ => 0) (fun _ => 0)) (fun _ iv _ => fz - (intOf iv).toNat)
        case atStart => exact ⟨0, Nat.zero_le _, rfl, rfl, hst1⟩
        case round =>
          clear hst1
          obtain ⟨k, hk, rfl, rfl, hst⟩ := hrel
          have bS := ok.sum k
          by_cases hlt : k < fz
          · have hkn : k < n := by omega
            have c1 := hst.c1
            obtain ⟨tv, ht⟩ : ∃ v, wr.cell? ⟨tb, k, none⟩ = some (.int .i64 v) := ⟨_, hst.rt.at_ k hkn⟩
            have hf := hst.rt.free k
            have hst2 := hst.setT hkn (sums sz k : Int)
            have d0 := hst2.c0
            have dz : (wr.setCell ⟨tb, k, none⟩ (.int .i64 (sums sz k : Int))).cell? ⟨zb, k, none⟩ = some (.int .i64 (sz k : Int)) := hst2.rz.at_ k hkn
            have bz := ok.hsz k
            have e0 : (k : Int) < (n : Int) := by omega
            have HS : Hid (sums sz (k + 1) = sums sz k + sz k) := rfl
            go_wp2_with fail
            go_roundw
            case rel =>
              refine ⟨k + 1, by omega, by go_num, by rw [HS.out]; go_num, hst2.cong (fun _ _ => rfl) (fun i _ => ?_) (fun _ _ => rfl) (fun _ _ => rfl)⟩
              by_cases e : i = k
              · subst e; simp
              · have : i < k + 1 ↔ i < k := by omega
                simp [this, e]
            case measure => simp [intOf]; omega
          · have hk' : fz = k := by omega
            subst hk'
            obtain ⟨E, hE⟩ : ∃ E, edgeOf m fz sz = E := ⟨_, rfl⟩
            have hmin : (if m < sums sz fz then (m : Int) else (sums sz fz : Int)) = (E : Int) := by rw [← hE]; unfold edgeOf; split <;> omega
            have bE : E ≤ 80 := by rw [← hE]; exact Nat.le_trans (Nat.min_le_right _ _) hm
            have HE : Hid (edgeOf m fz sz = E) := hE
            clear hE
            go_wp2_with fail
            go_loopw [15, 18] (fun pv iv wr => ∃ i p : Nat, sc ≤ i ∧ i ≤ n ∧ iv = .int .i64 (i : Int) ∧ pv = .int .i64 (p : Int) ∧ p ≤ 6000 ∧ Hid (p + sums sz sc = E + sums sz i) ∧ AxSt w wr ab zb tb lb n m (fun i => (sz i : Int)) (fun j => if j < fz then (sums sz j : Int) else if sc ≤ j ∧ j < i then (E : Int) + (sums sz j : Int) - (sums sz sc : Int) else 0) (fun _ => 0) (fun _ => 0)) (fun _ iv _ => n - (intOf iv).toNat)
            case atStart =>
              refine ⟨sc, E, Nat.le_refl _, by omega, rfl, rfl, by omega, rfl, hst.cong (fun _ _ => rfl) (fun j _ => ?_) (fun _ _ => rfl) (fun _ _ => rfl)⟩
              have : ¬ (sc ≤ j ∧ j < sc) := by omega
              simp [this]
            case round =>
              clear hst hmin
              obtain ⟨i, p, hi1, hi2, rfl, rfl, hp, HP, hst⟩ := hrel
              by_cases hlt : i < n
              · have c1 := hst.c1
                obtain ⟨tv, ht⟩ : ∃ v, wr.cell? ⟨tb, i, none⟩ = some (.int .i64 v) := ⟨_, hst.rt.at_ i hlt⟩
                have hf := hst.rt.free i
                have hst2 := hst.setT hlt (p : Int)
                have d0 := hst2.c0
                have dz : (wr.setCell ⟨tb, i, none⟩ (.int .i64 (p : Int))).cell? ⟨zb, i, none⟩ = some (.int .i64 (sz i : Int)) := hst2.rz.at_ i hlt
                have bz := ok.hsz i
                have e0 : (i : Int) < (n : Int) := by omega
                have HS : Hid (sums sz (i + 1) = sums sz i + sz i) := rfl
                have HB : Hid (sums sz (i + 1) ≤ 5120) := ok.sum _
                go_wp2_with fail
                go_roundw
                case rel =>
                  have x1 := HP.out
                  have x2 := HS.out
                  have x3 := HB.out
                  refine ⟨i + 1, p + sz i, by omega, by omega, by go_num, by go_num, by omega, by show _ = _; omega, hst2.cong (fun _ _ => rfl) (fun j _ => ?_) (fun _ _ => rfl) (fun _ _ => rfl)⟩
                  by_cases e : j = i
                  · subst e
                    have y1 : ¬ j < fz := by omega
                    have y2 : sc ≤ j ∧ j < j + 1 := by omega
                    simp only [if_true, y1, if_false, y2, and_self]
                    omega
                  · have y : (sc ≤ j ∧ j < i + 1) ↔ (sc ≤ j ∧ j < i) := by omega
                    simp only [e, if_false, y]
                case measure => simp [intOf]; omega
              · have hk' : n = i := by omega
                subst hk'
                obtain ⟨H, hH⟩ : ∃ H, hiOf n m fz sc sz = H := ⟨_, rfl⟩
                have hmin : (if m < p then (m : Int) else (p : Int)) = (H : Int) := by
                  rw [← hH]; unfold hiOf; rw [HE.out]; have := HP.out; have := sums_mono sz (Nat.le_of_lt hsc); split <;> omega
                have HH : Hid (hiOf n m fz sc sz = H) := hH
                clear hH
                have b2 : wr.cell? ⟨ab, 2, none⟩ = some (.int .i64 0) := hst.cb 0 (by omega)
                have b3 : wr.cell? ⟨ab, 3, none⟩ = some (.int .i64 0) := hst.cb 1 (by omega)
                have b4 : wr.cell? ⟨ab, 4, none⟩ = some (.int .i64 0) := hst.cb 2 (by omega)
                have b5 : wr.cell? ⟨ab, 5, none⟩ = some (.int .i64 0) := hst.cb 3 (by omega)
                have b6 : wr.cell? ⟨ab, 6, none⟩ = some (.int .i64 0) := hst.cb 4 (by omega)
                have b7 : wr.cell? ⟨ab, 7, none⟩ = some (.int .i64 0) := hst.cb 5 (by omega)
                have b8 : wr.cell? ⟨ab, 8, none⟩ = some (.int .i64 0) := hst.cb 6 (by omega)
                have b9 : wr.cell? ⟨ab, 9, none⟩ = some (.int .i64 0) := hst.cb 7 (by omega)
                have f2 := hst.free 2
                have f3 := hst.free 3
                have f4 := hst.free 4
                have f5 := hst.free 5
                have f6 := hst.free 6
                have f7 := hst.free 7
                have f8 := hst.free 8
                have f9 := hst.free 9
                have hstB : AxSt w ((((((((wr.setCell ⟨ab, 2, none⟩ (.int .i64 0)).setCell ⟨ab, 3, none⟩ (.int .i64 (fz : Int))).setCell ⟨ab, 4, none⟩ (.int .i64 0)).setCell ⟨ab, 5, none⟩ (.int .i64 (E : Int))).setCell ⟨ab, 6, none⟩ (.int .i64 (fz : Int))).setCell ⟨ab, 7, none⟩ (.int .i64 (n : Int))).setCell ⟨ab, 8, none⟩ (.int .i64 (E : Int))).setCell ⟨ab, 9, none⟩ (.int .i64 (H : Int))) ab zb tb lb n m (fun i => (sz i : Int)) (fun j => if j < fz then (sums sz j : Int) else if sc ≤ j then (E : Int) + (sums sz j : Int) - (sums sz sc : Int) else 0) (fun _ => 0) (bandB n fz E H) := by
                  have q := (((((((hst.setB (j := 0) (by omega) 0).setB (j := 1) (by omega) (fz : Int)).setB (j := 2) (by omega) 0).setB (j := 3) (by omega) (E : Int)).setB (j := 4) (by omega) (fz : Int)).setB (j := 5) (by omega) (n : Int)).setB (j := 6) (by omega) (E : Int)).setB (j := 7) (by omega) (H : Int)
                  refine AxSt.cong q (fun _ _ => rfl) (fun j hj => ?_) (fun _ _ => rfl) (fun j hj => ?_)
                  · simp only [hj, and_true]
                  · have : j = 0 ∨ j = 1 ∨ j = 2 ∨ j = 3 ∨ j = 4 ∨ j = 5 ∨ j = 6 ∨ j = 7 := by omega
                    rcases this with rfl | rfl | rfl | rfl | rfl | rfl | rfl | rfl <;> simp [bandB]
                go_wp2_with fail
                generalize ((((((((wr.setCell ⟨ab, 2, none⟩ (.int .i64 0)).setCell ⟨ab, 3, none⟩ (.int .i64 (fz : Int))).setCell ⟨ab, 4, none⟩ (.int .i64 0)).setCell ⟨ab, 5, none⟩ (.int .i64 (E : Int))).setCell ⟨ab, 6, none⟩ (.int .i64 (fz : Int))).setCell ⟨ab, 7, none⟩ (.int .i64 (n : Int))).setCell ⟨ab, 8, none⟩ (.int .i64 (E : Int))).setCell ⟨ab, 9, none⟩ (.int .i64 (H : Int))) = wB at hstB ⊢
                clear b2 b3 b4 b5 b6 b7 b8 b9 f2 f3 f4 f5 f6 f7 f8 f9 hst hmin
                go_loopw [15, 19] (fun pv iv wr => ∃ (k : Nat) (q : Int), fz ≤ k ∧ k ≤ sc ∧ iv = .int .i64 ((k : Int) - 1) ∧ pv = .int .i64 q ∧ -6000 ≤ q ∧ q ≤ 6000 ∧ Hid (q = (E : Int) + (sums sz k : Int) - (sums sz sc : Int)) ∧ AxSt w wr ab zb tb lb n m (fun i => (sz i : Int)) (fun j => if j < fz then (sums sz j : Int) else if k ≤ j then (E : Int) + (sums sz j : Int) - (sums sz sc : Int) else 0) (fun _ => 0) (bandB n fz E H)) (fun _ iv _ => (intOf iv + 1).toNat)
                case atStart => exact ⟨sc, E, hfz, Nat.le_refl _, rfl, rfl, by omega, by omega, by show _ = _; omega, hstB⟩
                case round =>
                  clear hstB
                  obtain ⟨k, q, hk1, hk2, hiv, rfl, hq1, hq2, HQ, hst⟩ := hrel
                  by_cases hlt : fz < k
                  · obtain ⟨k', rfl⟩ : ∃ k', k = k' + 1 := ⟨k - 1, by omega⟩
                    rw [show ((k' + 1 : Nat) : Int) - 1 = (k' : Int) by omega] at hiv
                    subst hiv
                    have hkn : k' < n := by omega
                    have g1 : fz ≤ k' := by omega
                    have c0 := hst.c0
                    have c1 := hst.c1
                    have cz : wr.cell? ⟨zb, k', none⟩ = some (.int .i64 (sz k' : Int)) := hst.rz.at_ k' hkn
                    obtain ⟨tv, ht⟩ : ∃ v, wr.cell? ⟨tb, k', none⟩ = some (.int .i64 v) := ⟨_, hst.rt.at_ k' hkn⟩
                    have hf := hst.rt.free k'
                    have bz := ok.hsz k'
                    have e0 : (k' : Int) < (n : Int) := by omega
                    have HS : Hid (sums sz (k' + 1) = sums sz k' + sz k') := rfl
                    have HB1 : Hid (sums sz k' ≤ 5120) := ok.sum _
                    have HB2 : Hid (sums sz sc ≤ 5120) := ok.sum _
                    have hst2 := hst.setT hkn (q - (sz k' : Int))
                    go_wp2_with fail
                    go_roundw
                    case rel =>
                      have x1 := HQ.out
                      have x2 := HS.out
                      have x3 := HB1.out
                      have x4 := HB2.out
                      refine ⟨k', q - (sz k' : Int), by omega, by omega, by go_num, by go_num, by omega, by omega, by show _ = _; omega, hst2.cong (fun _ _ => rfl) (fun j _ => ?_) (fun _ _ => rfl) (fun _ _ => rfl)⟩
                      by_cases e : j = k'
                      · subst e
                        have y1 : ¬ j < fz := by omega
                        simp only [if_true, y1, if_false, Nat.le_refl]
                        omega
                      · have y : k' + 1 ≤ j ↔ k' ≤ j := by omega
                        simp only [e, if_false, y]
                    case measure => simp [intOf]
                  · have hk' : fz = k := by omega
                    subst hk' hiv
                    have hd : decide ((fz : Int) ≤ (fz : Int) - 1) = false := by simp; omega
                    have hst5 : AxSt w wr ab zb tb lb n m (fun i => (sz i : Int)) (stOf m fz sc sz) (fun p => if p < 0 then -1 else 0) (bandB n fz E H) := by
                      refine hst.cong (fun _ _ => rfl) (fun j _ => ?_) (fun _ _ => by simp) (fun _ _ => rfl)
                      unfold stOf
                      rw [HE.out]
                      by_cases e : j < fz
                      · simp only [e, if_true]
                      · have : fz ≤ j := by omega
                        simp only [e, if_false, this, if_true]
                    clear hst
                    have c10 := hst5.c10
                    go_wp2_with fail
                    clear c10
                    go_loopw [145] (fun kv wr => ∃ k : Nat, k ≤ m ∧ kv = .int .i64 (k : Int) ∧ AxSt w wr ab zb tb lb n m (fun i => (sz i : Int)) (stOf m fz sc sz) (fun p => if p < k then -1 else 0) (bandB n fz E H)) (fun kv _ => m - (intOf kv).toNat)
                    case atStart => exact ⟨0, Nat.zero_le _, rfl, hst5⟩
                    case round =>
                      clear hst5
                      obtain ⟨k, hk, rfl, hst⟩ := hrel
                      by_cases hlt : k < m
                      · have c10 := hst.c10
                        obtain ⟨tv, ht⟩ : ∃ v, wr.cell? ⟨lb, k, none⟩ = some (.int .i64 v) := ⟨_, hst.rl.at_ k hlt⟩
                        have hf := hst.rl.free k
                        have e0 : (k : Int) < (m : Int) := by omega
                        have hst2 := hst.setL hlt (-1)
                        go_wp2_with fail
                        go_roundw
                        case rel =>
                          refine ⟨k + 1, by omega, by go_num, hst2.cong (fun _ _ => rfl) (fun _ _ => rfl) (fun j _ => ?_) (fun _ _ => rfl)⟩
                          by_cases e : j = k
                          · subst e; simp
                          · have : j < k + 1 ↔ j < k := by omega
                            simp [this, e]
                        case measure => simp [intOf]; omega
                      · have hk' : m = k := by omega
                        subst hk'
                        have hst6 : AxSt w wr ab zb tb lb n m (fun i => (sz i : Int)) (stOf m fz sc sz) (lnK n m fz sc sz 0) (bandB n fz E H) := hst.cong (fun _ _ => rfl) (fun _ _ => rfl) (fun p hp => by simp [lnK, hp]) (fun _ _ => rfl)
                        clear hst
                        have c0 := hst6.c0
                        go_wp2_with fail
                        clear c0
                        go_loopw [160] (fun kv wr => ∃ k : Nat, k ≤ n ∧ kv = .int .i64 (k : Int) ∧ AxSt w wr ab zb tb lb n m (fun i => (sz i : Int)) (stOf m fz sc sz) (lnK n m fz sc sz k) (bandB n fz E H)) (fun kv _ => n - (intOf kv).toNat)
                        case atStart => exact ⟨0, Nat.zero_le _, rfl, hst6⟩
                        case round =>
                          clear hst6
                          obtain ⟨k, hk, rfl, hst⟩ := hrel
                          by_cases hlt : k < n
                          · have e0 : (k : Int) < (n : Int) := by omega
                            have hA : AxAt wr ab (ax0 n m fz sc sz zb tb lb (lnK n m fz sc sz k)) := AxSt.axAt (by rw [HE.out, HH.out]; exact hst)
                            obtain ⟨bo, hbo⟩ : ∃ bo, bo = if k < fz then 2 else 6 := ⟨_, rfl⟩
                            have HBO : Hid (Calls Try.prog 60 #[.pointer (some ⟨ab, 0, none⟩), .int .i64 (k : Int)] wr fun e w' => e = .returned (.pointer (some ⟨ab, bo, none⟩)) ∧ w' = wr) := bandOf_own wr ab n m fz sc sz zb tb lb _ hA k bo hbo
                            obtain ⟨lo, hlo⟩ : ∃ lo : Nat, cLo n m fz sc sz k = (lo : Int) := ⟨_, (Int.toNat_of_nonneg (cLo_nonneg n m fz sc sz k)).symm⟩
                            obtain ⟨hi, hhi⟩ : ∃ hi : Int, cHi n m fz sc sz k = hi := ⟨_, rfl⟩
                            have HCL : Hid (Calls Try.prog 38 #[.pointer (some ⟨ab, 0, none⟩), .int .i64 (k : Int), .int .i64 (k : Int), .pointer (some ⟨ab, bo, none⟩)] wr fun e w' => e = .returned (.tuple #[.int .i64 (lo : Int), .int .i64 hi]) ∧ ∃ q, w' = wr.drewN q) := by
                              have := clip_own wr ab n m fz sc sz zb tb lb _ hA ok k hlt bo hbo
                              rw [hlo, hhi] at this
                              exact this
                            have him : hi ≤ (m : Int) := by rw [← hhi]; exact cHi_le n m fz sc sz k
                            have HLK : Hid (∀ p : Nat, lnK n m fz sc sz (k + 1) p = if (lo : Int) ≤ p ∧ (p : Int) < hi then (k : Int) else lnK n m fz sc sz k p) := fun p => by show (if _ then _ else _) = _; rw [hlo, hhi]
                            clear hbo hlo hhi hA
                            go_wp2_with fail
                            refine HBO.out.mono ?_
                            rintro e w5 ⟨rfl, rfl⟩
                            go_wp2_with fail
                            refine HCL.out.mono ?_
                            rintro e w6 ⟨rfl, dq, rfl⟩
                            have hst7 : AxSt w (w5.drewN dq) ab zb tb lb n m (fun i => (sz i : Int)) (stOf m fz sc sz) (fun q => if lo ≤ q ∧ q < lo then (k : Int) else lnK n m fz sc sz k q) (bandB n fz E H) :=
                              (hst.on ((Kp.refl _ _).drewN dq)).cong (fun _ _ => rfl) (fun _ _ => rfl) (fun q _ => (if_neg (by omega)).symm) (fun _ _ => rfl)
                            generalize w5.drewN dq = wd at hst7 ⊢
                            clear hst
                            go_wp2_with fail
                            go_loopw [24] (fun pv wq => ∃ p : Nat, pv = .int .i64 (p : Int) ∧ lo ≤ p ∧ (p ≤ lo ∨ (p : Int) ≤ hi) ∧ AxSt w wq ab zb tb lb n m (fun i => (sz i : Int)) (stOf m fz sc sz) (fun q => if lo ≤ q ∧ q < p then (k : Int) else lnK n m fz sc sz k q) (bandB n fz E H)) (fun pv _ => (hi - intOf pv).toNat)
                            case atStart => exact ⟨lo, rfl, Nat.le_refl _, Or.inl (Nat.le_refl _), hst7⟩
                            case round =>
                              clear hst7
                              obtain ⟨p, rfl, hp1, hp2, hst⟩ := hrel
                              by_cases hph : (p : Int) < hi
                              · have hpm : p < m := by omega
                                have c10 := hst.c10
                                obtain ⟨tv, ht⟩ : ∃ v, wr.cell? ⟨lb, p, none⟩ = some (.int .i64 v) := ⟨_, hst.rl.at_ p hpm⟩
                                have hf := hst.rl.free p
                                have e1 : (p : Int) < (m : Int) := by omega
                                have hst2 := hst.setL hpm (k : Int)
                                go_wp2_with fail
                                go_roundw
                                case rel =>
                                  refine ⟨p + 1, by go_num, by omega, Or.inr (by omega), hst2.cong (fun _ _ => rfl) (fun _ _ => rfl) (fun j _ => ?_) (fun _ _ => rfl)⟩
                                  by_cases e : j = p
                                  · subst e
                                    have y : lo ≤ j ∧ j < j + 1 := by omega
                                    simp only [if_true, y, and_self]
                                  · have y : (lo ≤ j ∧ j < p + 1) ↔ (lo ≤ j ∧ j < p) := by omega
                                    simp only [e, if_false, y]
                                case measure => simp [intOf]; omega
                              · have hd : decide ((p : Int) < hi) = false := by simp; omega
                                go_wp2_with fail
                                go_roundw
                                case rel =>
                                  refine ⟨k + 1, by omega, by go_num, hst.cong (fun _ _ => rfl) (fun _ _ => rfl) (fun j _ => ?_) (fun _ _ => rfl)⟩
                                  rw [HLK.out]
                                  have y : (lo ≤ j ∧ j < p) ↔ ((lo : Int) ≤ j ∧ (j : Int) < hi) := by omega
                                  simp only [y]
                                case measure => simp [intOf]; omega
                          · have hk' : n = k := by omega
                            subst hk'
                            have HF : Hid (AxAt wr ab (mkAx n m fz sc sz zb tb lb)) := AxSt.axAt (by rw [HE.out, HH.out]; exact hst)
                            have HK : Hid (Kp no w wr) := hst.kp
                            have HN : Hid (w.heap.size ≤ ab) := hst.na
                            go_wp2_with fail
                            go_ret
                            exact ⟨ab, zb, tb, lb, rfl, HK.out, HF.out, HN.out⟩
end Go.Proofs.Qxb6500653a
