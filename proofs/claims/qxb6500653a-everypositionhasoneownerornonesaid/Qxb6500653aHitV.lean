/-
  Hit (16) where the geometry is laid: nothing at all is written.
-/
import Derived.Test.Qxb6500653aHit
import Derived.Test.Qxb6500653aAxesV
namespace Go.Proofs.Qxb6500653a
open Go.RowKit

def HitPostK (lb sb : Nat) (S : Sh) (V : Vw) (y x : Int) (w : World) (e : Ending) (w' : World) : Prop :=
  e = .returned (.tuple #[addrV ((hitOf S V y x).getD (0, 0)).1 ((hitOf S V y x).getD (0, 0)).2, .bool (hitOf S V y x).isSome]) ∧ Kp no w w' ∧ LayAt w' lb sb S V
theorem hitPostK_no {lb sb : Nat} {S : Sh} {V : Vw} {y x : Int} {w w' : World} (h : hitOf S V y x = none) (k : Kp no w w') (hL : LayAt w' lb sb S V) : HitPostK lb sb S V y x w (.returned (.tuple #[addrV 0 0, .bool false])) w' := by
  refine ⟨?_, k, hL⟩
  rw [h]; rfl
theorem hitPostK_yes {lb sb : Nat} {S : Sh} {V : Vw} {y x : Int} {w w' : World} {r c : Nat} (h : hitOf S V y x = some (r, c)) (k : Kp no w w') (hL : LayAt w' lb sb S V) : HitPostK lb sb S V y x w (.returned (.tuple #[addrV r c, .bool true])) w' := by
  refine ⟨?_, k, hL⟩
  rw [h]; rfl
theorem hitK_out (w : World) (lb sb : Nat) (S : Sh) (V : Vw) (y x : Int) (hL : LayAt w lb sb S V) (hn : hitOf S V y x = none) (u : Array Value) (hu : (results Try.f16 u).run Try.prog (w.alloc (.cells #[.int .i64 0, .int .i64 0] 31)) = .ok (.tuple #[addrV 0 0, .bool false]) (w.alloc (.cells #[.int .i64 0, .int .i64 0] 31))) (d : List Deferred) (hd : d = []) :
    bodyPost Try.prog Try.f16 (HitPostK lb sb S V y x w) Exit.ret { tmps := u, defers := d } (w.alloc (.cells #[.int .i64 0, .int .i64 0] 31)) := by
  subst hd
  exact bodyPost_ret hu rfl (hitPostK_no hn ((Kp.refl _ _).alloc _) (hL.on ((Kp.refl _ _).alloc _)))

set_option maxRecDepth 100000 in
set_option maxHeartbeats 1000000 in
theorem hitK_at (w : World) (lb sb : Nat) (S : Sh) (V : Vw) (h : SheetAt w sb S) (hS : S.Ok) (hL : LayAt w lb sb S V) (HC : Hid (Cached w lb S V)) (y x : Int) :
    Calls Try.prog 16 #[.pointer (some ⟨lb, 0, none⟩), .int .i64 y, .int .i64 x] w (HitPostK lb sb S V y x w) := by
  by_cases g1 : y < 0
  · have d1 : decide (y < 0) = true := by simp [g1]
    have HN : Hid (hitOf S V y x = none) := by show _ = _; unfold hitOf; exact if_neg (by omega)
    go_enter Try.func16, Try.ntmps16
    go_wp2_with fail
    exact hitK_out w lb sb S V y x hL HN.out _ (by simp [results, Try.results16, go_sem]; rfl) _ rfl
  have d1 : decide (y < 0) = false := by simp; omega
  by_cases g2 : 24 ≤ y
  · have d2 : decide (24 ≤ y) = true := by simp [g2]
    have HN : Hid (hitOf S V y x = none) := by show _ = _; unfold hitOf; exact if_neg (by omega)
    go_enter Try.func16, Try.ntmps16
    go_wp2_with fail
    exact hitK_out w lb sb S V y x hL HN.out _ (by simp [results, Try.results16, go_sem]; rfl) _ rfl
  have d2 : decide (24 ≤ y) = false := by simp; omega
  by_cases g3 : x < 0
  · have d3 : decide (x < 0) = true := by simp [g3]
    have HN : Hid (hitOf S V y x = none) := by show _ = _; unfold hitOf; exact if_neg (by omega)
    go_enter Try.func16, Try.ntmps16
    go_wp2_with fail
    exact hitK_out w lb sb S V y x hL HN.out _ (by simp [results, Try.results16, go_sem]; rfl) _ rfl
  have d3 : decide (x < 0) = false := by simp; omega
  by_cases g4 : 80 ≤ x
  · have d4 : decide (80 ≤ x) = true := by simp [g4]
    have HN : Hid (hitOf S V y x = none) := by show _ = _; unfold hitOf; exact if_neg (by omega)
    go_enter Try.func16, Try.ntmps16
    go_wp2_with fail
    exact hitK_out w lb sb S V y x hL HN.out _ (by simp [results, Try.results16, go_sem]; rfl) _ rfl
  have d4 : decide (80 ≤ x) = false := by simp; omega
  obtain ⟨yn, rfl⟩ : ∃ yn : Nat, y = (yn : Int) := ⟨y.toNat, by omega⟩
  obtain ⟨xn, rfl⟩ : ∃ xn : Nat, x = (xn : Int) := ⟨x.toNat, by omega⟩
  have b1 : yn < 24 := by omega
  have b2 : xn < 80 := by omega
  clear g1 g2 g3 g4
  obtain ⟨w1, hw1⟩ : ∃ w1, w1 = w.alloc (.cells #[.int .i64 0, .int .i64 0] 31) := ⟨_, rfl⟩
  obtain ⟨rb6, hb6⟩ : ∃ rb6, rb6 = w.heap.size := ⟨_, rfl⟩
  have HK1 : Hid (Kp no w w1) := by show Kp no w w1; rw [hw1]; exact (Kp.refl _ _).alloc _
  have HC1 : Hid (w1.cell? ⟨rb6, 0, none⟩ = some (.int .i64 0) ∧ w1.cell? ⟨rb6, 1, none⟩ = some (.int .i64 0) ∧ ∀ o, w1.frozen? ⟨rb6, o, none⟩ = false) := by
    subst hw1 hb6
    exact ⟨by simp, by simp, fun o => by simp⟩
  have hne : Hid (rb6 ≠ lb) := by show rb6 ≠ lb; rw [hb6]; exact Nat.ne_of_gt hL.lt
  have hnew : Hid (¬ rb6 < w.heap.size) := by show ¬ _; omega
  have HC10 : Hid (w1.cell? ⟨rb6, 10, none⟩ = none) := by
    subst hw1 hb6
    show _ = _
    simp
  go_enter Try.func16, Try.ntmps16
  go_wp2_with fail
  rw [← hb6, ← hw1]
  clear hb6 hw1
  refine (axesK_at w1 lb sb S V (h.on HK1.out) (hL.on HK1.out) (HC.out.on HK1.out)).mono ?_
  rintro e w3 ⟨rb, cb, rfl, k3, hA3, hL3⟩
  obtain ⟨a1, a2, a3, hrow⟩ := hA3.row
  obtain ⟨q1, q2, q3, hcol⟩ := hA3.col
  have r10 : w3.cell? ⟨rb, 10, none⟩ = some (.slice (some ⟨a3, 0, none⟩) 24 24) := hrow.c10
  have rl : w3.cell? ⟨a3, yn, none⟩ = some (.int .i64 (lnR S V yn)) := hrow.cl yn b1
  have c10 : w3.cell? ⟨cb, 10, none⟩ = some (.slice (some ⟨q3, 0, none⟩) 80 80) := hcol.c10
  have cl : w3.cell? ⟨q3, xn, none⟩ = some (.int .i64 (lnC S V xn)) := hcol.cl xn b2
  have n0 : w3.cell? ⟨rb6, 10, none⟩ = none := k3.nocell (show rb6 < w1.heap.size from cell_lt HC1.out.1) id HC10.out
  obtain ⟨e1, _, _, e2⟩ := hrow.small (by show 10 < 64; omega) (by show 10 < 24; omega) n0
  obtain ⟨e3, _, _, e4⟩ := hcol.small (by show 10 < 26; omega) (by show 10 < 80; omega) n0
  have e2 : rb6 ≠ a3 := e2
  have e4 : rb6 ≠ q3 := e4
  have z0 := k3.cell HC1.out.1 id
  have z1 := k3.cell HC1.out.2.1 id
  have hzl : rb6 < w3.heap.size := cell_lt z0
  have g0 : w3.frozen? ⟨rb6, 0, none⟩ = false := (k3.frozen (p := ⟨rb6, 0, none⟩) (show rb6 < w1.heap.size from cell_lt HC1.out.1) id).trans (HC1.out.2.2 0)
  have g1 : w3.frozen? ⟨rb6, 1, none⟩ = false := (k3.frozen (p := ⟨rb6, 1, none⟩) (show rb6 < w1.heap.size from cell_lt HC1.out.1) id).trans (HC1.out.2.2 1)
  have i1 : (yn : Int) < 24 := by omega
  have i2 : (xn : Int) < 80 := by omega
  have HKW : Hid (Kp no w w3) := (Kp.of_no HK1.out).trans k3
  have HS3 : Hid (SheetAt w3 sb S) := (h.on HK1.out).on k3
  have HN10 : Hid (w3.cell? ⟨rb6, 10, none⟩ = none) := n0
  clear n0 hrow hcol hA3
  have HP : Hid (Kp no w (put2 w3 rb6 (.int .i64 0) (.int .i64 0)) ∧ LayAt (put2 w3 rb6 (.int .i64 0) (.int .i64 0)) lb sb S V ∧ (put2 w3 rb6 (.int .i64 0) (.int .i64 0)).cell? ⟨rb6, 0, none⟩ = some (.int .i64 0) ∧ (put2 w3 rb6 (.int .i64 0) (.int .i64 0)).cell? ⟨rb6, 1, none⟩ = some (.int .i64 0)) := by
    exact ⟨HKW.out.put2 (fun h => absurd h hnew.out) _ _, hL3.put2 hne.out HN10.out _ _, put2_at z0 z1 _ _⟩
  rcases lnR_cases S V yn with hr | ⟨i, hi, hr⟩
  · rw [hr] at rl
    have HN : Hid (hitOf S V yn xn = none) := by show _ = _; unfold hitOf; exact if_neg (by rw [Int.toNat_natCast, hr]; omega)
    clear hr
    go_wp2_with fail
    change bodyPost _ _ _ _ _ (put2 w3 rb6 (.int .i64 0) (.int .i64 0))
    obtain ⟨p1, p2, p3, p4⟩ := HP.out
    generalize put2 w3 rb6 (.int .i64 0) (.int .i64 0) = w9 at p1 p2 p3 p4 ⊢
    exact bodyPost_ret (v := .tuple #[addrV 0 0, .bool false]) (by simp [results, Try.results16, go_sem, p3, p4]; rfl) rfl (hitPostK_no HN.out p1 p2)
  · rcases lnC_cases S V xn with hc | ⟨j, hj, hc⟩
    · rw [hr] at rl
      rw [hc] at cl
      have HN : Hid (hitOf S V yn xn = none) := by show _ = _; unfold hitOf; exact if_neg (by rw [Int.toNat_natCast, Int.toNat_natCast, hr, hc]; omega)
      clear hr hc
      go_wp2_with fail
      change bodyPost _ _ _ _ _ (put2 w3 rb6 (.int .i64 0) (.int .i64 0))
      obtain ⟨p1, p2, p3, p4⟩ := HP.out
      generalize put2 w3 rb6 (.int .i64 0) (.int .i64 0) = w9 at p1 p2 p3 p4 ⊢
      exact bodyPost_ret (v := .tuple #[addrV 0 0, .bool false]) (by simp [results, Try.results16, go_sem, p3, p4]; rfl) rfl (hitPostK_no HN.out p1 p2)
    · rw [hr] at rl
      rw [hc] at cl
      have HN : Hid (hitOf S V yn xn = some (ownR S.mg i j, ownC S.mg i j)) := by
        show _ = _
        unfold hitOf
        rw [if_pos ⟨by omega, by omega, by omega, by omega, by rw [Int.toNat_natCast, hr]; omega, by rw [Int.toNat_natCast, hc]; omega⟩, Int.toNat_natCast, Int.toNat_natCast, hr, hc, Int.toNat_natCast, Int.toNat_natCast]
      clear hr hc
      have HO : Hid (Calls Try.prog 36 #[.pointer (some ⟨lb, 0, none⟩), .agg #[.int .i64 (i : Int), .int .i64 (j : Int)]] w3.drew fun e w' => e = .returned (addrV (ownR S.mg i j) (ownC S.mg i j)) ∧ Kp no w3.drew w') := owner_at w3.drew lb sb S (HS3.out.on (Kp.refl _ _).drew) hS hL3.src i j
      generalize ownR S.mg i j = oR at *
      generalize ownC S.mg i j = oC at *
      unfold addrV at HO
      go_wp2_with fail
      go_region_held3 (fun w' => w'.cell? ⟨rb, 10, none⟩ = some (.slice (some ⟨a3, 0, none⟩) 24 24) ∧ w'.cell? ⟨a3, yn, none⟩ = some (.int .i64 (i : Int)) ∧ w'.cell? ⟨cb, 10, none⟩ = some (.slice (some ⟨q3, 0, none⟩) 80 80) ∧ w'.cell? ⟨q3, xn, none⟩ = some (.int .i64 (j : Int)))
        (refine ⟨?_, ?_, ?_, ?_⟩ <;> first | assumption | exact far2 e1 (by assumption) | exact far2 e2 (by assumption) | exact far2 e3 (by assumption) | exact far2 e4 (by assumption))
        (first | (go_at_call 36; refine HO.out.mono ?_; rintro e w5 ⟨rfl, kp5⟩; have t0 := kp5.cell (p := ⟨rb6, 0, none⟩) z0 id; have t1 := kp5.cell (p := ⟨rb6, 1, none⟩) z1 id; have t2 := (kp5.frozen (p := ⟨rb6, 0, none⟩) hzl id).trans g0; have t3 := (kp5.frozen (p := ⟨rb6, 1, none⟩) hzl id).trans g1; have t4 := kp5.cell (p := ⟨rb, 10, none⟩) r10 id; have t5 := kp5.cell (p := ⟨a3, yn, none⟩) rl id; have t6 := kp5.cell (p := ⟨cb, 10, none⟩) c10 id; have t7 := kp5.cell (p := ⟨q3, xn, none⟩) cl id))
      all_goals go_wp2_with fail
      all_goals
        change bodyPost _ _ _ _ _ (put2 w5 rb6 (.int .i64 (oR : Int)) (.int .i64 (oC : Int)))
        obtain ⟨p3, p4⟩ := put2_at t0 t1 (.int .i64 (oR : Int)) (.int .i64 (oC : Int))
        have p1 := ((HKW.out.drew).trans (Kp.of_no kp5)).put2 (b := rb6) (fun h => absurd h hnew.out) (.int .i64 (oR : Int)) (.int .i64 (oC : Int))
        have p2 : LayAt (put2 w5 rb6 (.int .i64 (oR : Int)) (.int .i64 (oC : Int))) lb sb S V := (hL3.on kp5.drew_left).put2 hne.out (kp5.drew_left.nocell hzl id HN10.out) _ _
        generalize put2 w5 rb6 (.int .i64 (oR : Int)) (.int .i64 (oC : Int)) = w9 at p1 p2 p3 p4 ⊢
        exact bodyPost_ret (v := .tuple #[addrV oR oC, .bool true]) (by simp [results, Try.results16, go_sem, p3, p4]; rfl) rfl (hitPostK_yes HN.out p1 p2)
end Go.Proofs.Qxb6500653a
