/-
  Hit (16).
-/
import Derived.Test.Qxb6500653aRevealM
namespace Go.Proofs.Qxb6500653a
open Go.RowKit

/-- the line at a position: none, or a line of the axis -/
theorem lnK_cases (n m fz sc : Nat) (sz : Nat → Nat) (k p : Nat) : lnK n m fz sc sz k p = -1 ∨ ∃ i, i < k ∧ lnK n m fz sc sz k p = (i : Int) := by
  induction k with
  | zero => exact Or.inl rfl
  | succ k ih =>
    simp only [lnK]
    split
    · exact Or.inr ⟨k, by omega, rfl⟩
    · rcases ih with h | ⟨i, hi, h⟩
      · exact Or.inl h
      · exact Or.inr ⟨i, by omega, h⟩

def lnR (S : Sh) (V : Vw) (y : Nat) : Int := lnK 64 24 V.fr V.sr (rowSz S) 64 y
def lnC (S : Sh) (V : Vw) (x : Nat) : Int := lnK 26 80 V.fc V.sc (colSz S) 26 x
theorem lnR_cases (S : Sh) (V : Vw) (y : Nat) : lnR S V y = -1 ∨ ∃ i : Nat, i < 64 ∧ lnR S V y = (i : Int) := lnK_cases _ _ _ _ _ _ _
theorem lnC_cases (S : Sh) (V : Vw) (y : Nat) : lnC S V y = -1 ∨ ∃ i : Nat, i < 26 ∧ lnC S V y = (i : Int) := lnK_cases _ _ _ _ _ _ _

/-- the cell that owns a position -/
def hitOf (S : Sh) (V : Vw) (y x : Int) : Option (Nat × Nat) :=
  if 0 ≤ y ∧ y < 24 ∧ 0 ≤ x ∧ x < 80 ∧ 0 ≤ lnR S V y.toNat ∧ 0 ≤ lnC S V x.toNat then some (ownR S.mg (lnR S V y.toNat).toNat (lnC S V x.toNat).toNat, ownC S.mg (lnR S V y.toNat).toNat (lnC S V x.toNat).toNat) else none
def HitPost (lb sb : Nat) (S : Sh) (V : Vw) (y x : Int) (w : World) (e : Ending) (w' : World) : Prop :=
  e = .returned (.tuple #[addrV ((hitOf S V y x).getD (0, 0)).1 ((hitOf S V y x).getD (0, 0)).2, .bool (hitOf S V y x).isSome]) ∧ Kp (one lb) w w' ∧ LayAt w' lb sb S V

theorem HitPost.no {lb sb : Nat} {S : Sh} {V : Vw} {y x : Int} {w w' : World} (h : hitOf S V y x = none) (k : Kp (one lb) w w') (hL : LayAt w' lb sb S V) : HitPost lb sb S V y x w (.returned (.tuple #[addrV 0 0, .bool false])) w' := by
  refine ⟨?_, k, hL⟩
  rw [h]; rfl
theorem HitPost.yes {lb sb : Nat} {S : Sh} {V : Vw} {y x : Int} {w w' : World} {r c : Nat} (h : hitOf S V y x = some (r, c)) (k : Kp (one lb) w w') (hL : LayAt w' lb sb S V) : HitPost lb sb S V y x w (.returned (.tuple #[addrV r c, .bool true])) w' := by
  refine ⟨?_, k, hL⟩
  rw [h]; rfl

/-- a block of at most ten cells is none of an axis's -/
theorem AxAt.small {w : World} {ab b : Nat} {A : Ax} (h : AxAt w ab A) (hn : 10 < A.n) (hm : 10 < A.m) (hb : w.cell? ⟨b, 10, none⟩ = none) : b ≠ ab ∧ b ≠ A.zb ∧ b ≠ A.tb ∧ b ≠ A.lb := by
  refine ⟨fun e => ?_, fun e => ?_, fun e => ?_, fun e => ?_⟩
  · subst e; rw [h.c10] at hb; cases hb
  · subst e; rw [h.cz 10 hn] at hb; cases hb
  · subst e; rw [h.ct 10 hn] at hb; cases hb
  · subst e; rw [h.cl 10 hm] at hb; cases hb
theorem far2 {w : World} {a b i j o : Nat} {u u' v : Value} (h : a ≠ b) (hc : w.cell? ⟨b, o, none⟩ = some v) : ((w.setCell ⟨a, i, none⟩ u).setCell ⟨a, j, none⟩ u').cell? ⟨b, o, none⟩ = some v := by
  rw [World.cell?_setCell_far _ _ _ _ h, World.cell?_setCell_far _ _ _ _ h]; exact hc
theorem Kp.nocell {X : Nat → Prop} {w w' : World} (h : Kp X w w') {b o : Nat} (hb : b < w.heap.size) (hx : ¬ X b) (hc : w.cell? ⟨b, o, none⟩ = none) : w'.cell? ⟨b, o, none⟩ = none := by
  rw [World.cell?_of_block (w := w) (h.block b hb hx)]; exact hc

theorem AxesAt.tiny {X : Nat → Prop} {w w' : World} {rb cb : Nat} {S : Sh} {V : Vw} (h : AxesAt w rb cb S V) (k : Kp X w w') (hX : ∀ b, X b → w.cell? ⟨b, 10, none⟩ = none) : AxesAt w' rb cb S V := by
  obtain ⟨a, b, c, h1⟩ := h.row
  obtain ⟨d, e, f, h2⟩ := h.col
  refine ⟨⟨a, b, c, h1.kp k ?_ ?_ ?_ ?_⟩, ⟨d, e, f, h2.kp k ?_ ?_ ?_ ?_⟩⟩
  · exact fun hx => (h1.small (by show 10 < 64; omega) (by show 10 < 24; omega) (hX _ hx)).1 rfl
  · exact fun hx => (h1.small (by show 10 < 64; omega) (by show 10 < 24; omega) (hX _ hx)).2.1 rfl
  · exact fun hx => (h1.small (by show 10 < 64; omega) (by show 10 < 24; omega) (hX _ hx)).2.2.1 rfl
  · exact fun hx => (h1.small (by show 10 < 64; omega) (by show 10 < 24; omega) (hX _ hx)).2.2.2 rfl
  · exact fun hx => (h2.small (by show 10 < 26; omega) (by show 10 < 80; omega) (hX _ hx)).1 rfl
  · exact fun hx => (h2.small (by show 10 < 26; omega) (by show 10 < 80; omega) (hX _ hx)).2.1 rfl
  · exact fun hx => (h2.small (by show 10 < 26; omega) (by show 10 < 80; omega) (hX _ hx)).2.2.1 rfl
  · exact fun hx => (h2.small (by show 10 < 26; omega) (by show 10 < 80; omega) (hX _ hx)).2.2.2 rfl
theorem LayAt.tiny {X : Nat → Prop} {w w' : World} {lb sb : Nat} {S : Sh} {V : Vw} (h : LayAt w lb sb S V) (k : Kp X w w') (hn : ¬ X lb) (hX : ∀ b, X b → w.cell? ⟨b, 10, none⟩ = none) : LayAt w' lb sb S V := by
  obtain ⟨rp, cp, rev, h5, h6, h7, hr, hk⟩ := h.kept
  refine ⟨k.cell h.src hn, k.cell h.c1 hn, k.cell h.c2 hn, k.cell h.c3 hn, k.cell h.c4 hn, ⟨rp, cp, rev, k.cell h5 hn, k.cell h6 hn, k.cell h7 hn, hr, ?_⟩, fun o => (k.frozen (p := ⟨lb, o, none⟩) h.lt hn).trans (h.free o)⟩
  rcases hk with hk | hk | ⟨rb, cb, e1, e2, hk⟩
  · exact Or.inl hk
  · exact Or.inr (Or.inl hk)
  · exact Or.inr (Or.inr ⟨rb, cb, e1, e2, hk.tiny k hX⟩)
theorem LayAt.put2 {w : World} {lb sb : Nat} {S : Sh} {V : Vw} (h : LayAt w lb sb S V) {b : Nat} (hb : b ≠ lb) (h10 : w.cell? ⟨b, 10, none⟩ = none) (x0 x1 : Value) : LayAt (put2 w b x0 x1) lb sb S V :=
  h.tiny (X := one b) (Kp.put2 (Kp.refl (one b) w) (b := b) (fun _ => rfl) _ _) (fun e => hb e.symm) (fun c hc => by cases hc; exact h10)

theorem hit_out (w : World) (lb sb : Nat) (S : Sh) (V : Vw) (y x : Int) (hL : LayAt w lb sb S V) (hn : hitOf S V y x = none) (u : Array Value) (hu : (results Try.f16 u).run Try.prog (w.alloc (.cells #[.int .i64 0, .int .i64 0] 31)) = .ok (.tuple #[addrV 0 0, .bool false]) (w.alloc (.cells #[.int .i64 0, .int .i64 0] 31))) (d : List Deferred) (hd : d = []) :
    bodyPost Try.prog Try.f16 (HitPost lb sb S V y x w) Exit.ret { tmps := u, defers := d } (w.alloc (.cells #[.int .i64 0, .int .i64 0] 31)) := by
  subst hd
  exact bodyPost_ret hu rfl (HitPost.no hn ((Kp.refl _ _).alloc _) (hL.on ((Kp.refl _ _).alloc _)))

set_option maxRecDepth 100000 in
set_option maxHeartbeats 1000000 in
theorem hit_at (w : World) (lb sb : Nat) (S : Sh) (V : Vw) (h : SheetAt w sb S) (hS : S.Ok) (hL : LayAt w lb sb S V) (hV : V.Ok) (y x : Int) :
    Calls Try.prog 16 #[.pointer (some ⟨lb, 0, none⟩), .int .i64 y, .int .i64 x] w (HitPost lb sb S V y x w) := by
  by_cases g1 : y < 0
  · have d1 : decide (y < 0) = true := by simp [g1]
    have HN : Hid (hitOf S V y x = none) := by show _ = _; unfold hitOf; exact if_neg (by omega)
    go_enter Try.func16, Try.ntmps16
    go_wp2_with fail
    exact hit_out w lb sb S V y x hL HN.out _ (by simp [results, Try.results16, go_sem]; rfl) _ rfl
  have d1 : decide (y < 0) = false := by simp; omega
  by_cases g2 : 24 ≤ y
  · have d2 : decide (24 ≤ y) = true := by simp [g2]
    have HN : Hid (hitOf S V y x = none) := by show _ = _; unfold hitOf; exact if_neg (by omega)
    go_enter Try.func16, Try.ntmps16
    go_wp2_with fail
    exact hit_out w lb sb S V y x hL HN.out _ (by simp [results, Try.results16, go_sem]; rfl) _ rfl
  have d2 : decide (24 ≤ y) = false := by simp; omega
  by_cases g3 : x < 0
  · have d3 : decide (x < 0) = true := by simp [g3]
    have HN : Hid (hitOf S V y x = none) := by show _ = _; unfold hitOf; exact if_neg (by omega)
    go_enter Try.func16, Try.ntmps16
    go_wp2_with fail
    exact hit_out w lb sb S V y x hL HN.out _ (by simp [results, Try.results16, go_sem]; rfl) _ rfl
  have d3 : decide (x < 0) = false := by simp; omega
  by_cases g4 : 80 ≤ x
  · have d4 : decide (80 ≤ x) = true := by simp [g4]
    have HN : Hid (hitOf S V y x = none) := by show _ = _; unfold hitOf; exact if_neg (by omega)
    go_enter Try.func16, Try.ntmps16
    go_wp2_with fail
    exact hit_out w lb sb S V y x hL HN.out _ (by simp [results, Try.results16, go_sem]; rfl) _ rfl
  have d4 : decide (80 ≤ x) = false := by simp; omega
  obtain ⟨yn, rfl⟩ : ∃ yn : Nat, y = (yn : Int) := ⟨y.toNat, by omega⟩
  obtain ⟨xn, rfl⟩ : ∃ xn : Nat, x = (xn : Int) := ⟨x.toNat, by omega⟩
  have b1 : yn < 24 := by omega
  have b2 : xn < 80 := by omega
  clear g1 g2 g3 g4
  obtain ⟨w1, hw1⟩ : ∃ w1, w1 = w.alloc (.cells #[.int .i64 0, .int .i64 0] 31) := ⟨_, rfl⟩
  obtain ⟨rb6, hb6⟩ : ∃ rb6, rb6 = w.heap.size := ⟨_, rfl⟩
  have HK1 : Hid (Kp no w w1) := by show Kp no w w1; rw [hw1]; exact (Kp.refl _ _).alloc _
  have HC1 : Hid (w1.cell? ⟨rb6, 0, none⟩ = some (.int .i64 0) ∧ w1.cell? ⟨rb6, 1, none⟩ = some (.int .i64 0) ∧ ∀ o, w1.frozen? ⟨rb6, o, none⟩ = false) := by
    subst hw1 hb6
    exact ⟨by simp, by simp, fun o => by simp⟩
  have hne : Hid (rb6 ≠ lb) := by show rb6 ≠ lb; rw [hb6]; exact Nat.ne_of_gt hL.lt
  have hnew : Hid (¬ rb6 < w.heap.size) := by show ¬ _; omega
  have HC10 : Hid (w1.cell? ⟨rb6, 10, none⟩ = none) := by
    subst hw1 hb6
    show _ = _
    simp
  go_enter Try.func16, Try.ntmps16
  go_wp2_with fail
  rw [← hb6, ← hw1]
  clear hb6 hw1
  refine (axes_at w1 lb sb S V (h.on HK1.out) hS hV (hL.on HK1.out)).mono ?_
  rintro e w3 ⟨rb, cb, rfl, k3, hA3, hL3⟩
  obtain ⟨a1, a2, a3, hrow⟩ := hA3.row
  obtain ⟨q1, q2, q3, hcol⟩ := hA3.col
  have r10 : w3.cell? ⟨rb, 10, none⟩ = some (.slice (some ⟨a3, 0, none⟩) 24 24) := hrow.c10
  have rl : w3.cell? ⟨a3, yn, none⟩ = some (.int .i64 (lnR S V yn)) := hrow.cl yn b1
  have c10 : w3.cell? ⟨cb, 10, none⟩ = some (.slice (some ⟨q3, 0, none⟩) 80 80) := hcol.c10
  have cl : w3.cell? ⟨q3, xn, none⟩ = some (.int .i64 (lnC S V xn)) := hcol.cl xn b2
  have n0 : w3.cell? ⟨rb6, 10, none⟩ = none := k3.nocell (show rb6 < w1.heap.size from cell_lt HC1.out.1) hne.out HC10.out
  obtain ⟨e1, _, _, e2⟩ := hrow.small (by show 10 < 64; omega) (by show 10 < 24; omega) n0
  obtain ⟨e3, _, _, e4⟩ := hcol.small (by show 10 < 26; omega) (by show 10 < 80; omega) n0
  have e2 : rb6 ≠ a3 := e2
  have e4 : rb6 ≠ q3 := e4
  have z0 := k3.cell HC1.out.1 hne.out
  have z1 := k3.cell HC1.out.2.1 hne.out
  have hzl : rb6 < w3.heap.size := cell_lt z0
  have g0 : w3.frozen? ⟨rb6, 0, none⟩ = false := (k3.frozen (p := ⟨rb6, 0, none⟩) (show rb6 < w1.heap.size from cell_lt HC1.out.1) hne.out).trans (HC1.out.2.2 0)
  have g1 : w3.frozen? ⟨rb6, 1, none⟩ = false := (k3.frozen (p := ⟨rb6, 1, none⟩) (show rb6 < w1.heap.size from cell_lt HC1.out.1) hne.out).trans (HC1.out.2.2 1)
  have i1 : (yn : Int) < 24 := by omega
  have i2 : (xn : Int) < 80 := by omega
  have HKW : Hid (Kp (one lb) w w3) := (Kp.of_no HK1.out).trans k3
  have HS3 : Hid (SheetAt w3 sb S) := (h.on HK1.out).far k3 (hL.on HK1.out).farOne
  have HN10 : Hid (w3.cell? ⟨rb6, 10, none⟩ = none) := n0
  clear n0 hrow hcol hA3
  have HP : Hid (Kp (one lb) w (put2 w3 rb6 (.int .i64 0) (.int .i64 0)) ∧ LayAt (put2 w3 rb6 (.int .i64 0) (.int .i64 0)) lb sb S V ∧ (put2 w3 rb6 (.int .i64 0) (.int .i64 0)).cell? ⟨rb6, 0, none⟩ = some (.int .i64 0) ∧ (put2 w3 rb6 (.int .i64 0) (.int .i64 0)).cell? ⟨rb6, 1, none⟩ = some (.int .i64 0)) := by
    exact ⟨HKW.out.put2 (fun h => absurd h hnew.out) _ _, hL3.put2 hne.out HN10.out _ _, put2_at z0 z1 _ _⟩
  rcases lnR_cases S V yn with hr | ⟨i, hi, hr⟩
  · rw [hr] at rl
    have HN : Hid (hitOf S V yn xn = none) := by show _ = _; unfold hitOf; exact if_neg (by rw [Int.toNat_natCast, hr]; omega)
    clear hr
    go_wp2_with fail
    change bodyPost _ _ _ _ _ (put2 w3 rb6 (.int .i64 0) (.int .i64 0))
    obtain ⟨p1, p2, p3, p4⟩ := HP.out
    generalize put2 w3 rb6 (.int .i64 0) (.int .i64 0) = w9 at p1 p2 p3 p4 ⊢
    exact bodyPost_ret (v := .tuple #[addrV 0 0, .bool false]) (by simp [results, Try.results16, go_sem, p3, p4]; rfl) rfl (HitPost.no HN.out p1 p2)
  · rcases lnC_cases S V xn with hc | ⟨j, hj, hc⟩
    · rw [hr] at rl
      rw [hc] at cl
      have HN : Hid (hitOf S V yn xn = none) := by show _ = _; unfold hitOf; exact if_neg (by rw [Int.toNat_natCast, Int.toNat_natCast, hr, hc]; omega)
      clear hr hc
      go_wp2_with fail
      change bodyPost _ _ _ _ _ (put2 w3 rb6 (.int .i64 0) (.int .i64 0))
      obtain ⟨p1, p2, p3, p4⟩ := HP.out
      generalize put2 w3 rb6 (.int .i64 0) (.int .i64 0) = w9 at p1 p2 p3 p4 ⊢
      exact bodyPost_ret (v := .tuple #[addrV 0 0, .bool false]) (by simp [results, Try.results16, go_sem, p3, p4]; rfl) rfl (HitPost.no HN.out p1 p2)
    · rw [hr] at rl
      rw [hc] at cl
      have HN : Hid (hitOf S V yn xn = some (ownR S.mg i j, ownC S.mg i j)) := by
        show _ = _
        unfold hitOf
        rw [if_pos ⟨by omega, by omega, by omega, by omega, by rw [Int.toNat_natCast, hr]; omega, by rw [Int.toNat_natCast, hc]; omega⟩, Int.toNat_natCast, Int.toNat_natCast, hr, hc, Int.toNat_natCast, Int.toNat_natCast]
      clear hr hc
      have HO : Hid (Calls Try.prog 36 #[.pointer (some ⟨lb, 0, none⟩), .agg #[.int .i64 (i : Int), .int .i64 (j : Int)]] w3.drew fun e w' => e = .returned (addrV (ownR S.mg i j) (ownC S.mg i j)) ∧ Kp no w3.drew w') := owner_at w3.drew lb sb S (HS3.out.on (Kp.refl _ _).drew) hS hL3.src i j
      generalize ownR S.mg i j = oR at *
      generalize ownC S.mg i j = oC at *
      unfold addrV at HO
      go_wp2_with fail
      go_region_held3 (fun w' => w'.cell? ⟨rb, 10, none⟩ = some (.slice (some ⟨a3, 0, none⟩) 24 24) ∧ w'.cell? ⟨a3, yn, none⟩ = some (.int .i64 (i : Int)) ∧ w'.cell? ⟨cb, 10, none⟩ = some (.slice (some ⟨q3, 0, none⟩) 80 80) ∧ w'.cell? ⟨q3, xn, none⟩ = some (.int .i64 (j : Int)))
        (refine ⟨?_, ?_, ?_, ?_⟩ <;> first | assumption | exact far2 e1 (by assumption) | exact far2 e2 (by assumption) | exact far2 e3 (by assumption) | exact far2 e4 (by assumption))
        (first | (go_at_call 36; refine HO.out.mono ?_; rintro e w5 ⟨rfl, kp5⟩; have t0 := kp5.cell (p := ⟨rb6, 0, none⟩) z0 id; have t1 := kp5.cell (p := ⟨rb6, 1, none⟩) z1 id; have t2 := (kp5.frozen (p := ⟨rb6, 0, none⟩) hzl id).trans g0; have t3 := (kp5.frozen (p := ⟨rb6, 1, none⟩) hzl id).trans g1; have t4 := kp5.cell (p := ⟨rb, 10, none⟩) r10 id; have t5 := kp5.cell (p := ⟨a3, yn, none⟩) rl id; have t6 := kp5.cell (p := ⟨cb, 10, none⟩) c10 id; have t7 := kp5.cell (p := ⟨q3, xn, none⟩) cl id))
      all_goals go_wp2_with fail
      all_goals
        change bodyPost _ _ _ _ _ (put2 w5 rb6 (.int .i64 (oR : Int)) (.int .i64 (oC : Int)))
        obtain ⟨p3, p4⟩ := put2_at t0 t1 (.int .i64 (oR : Int)) (.int .i64 (oC : Int))
        have p1 := ((HKW.out.drew).trans (Kp.of_no kp5)).put2 (b := rb6) (fun h => absurd h hnew.out) (.int .i64 (oR : Int)) (.int .i64 (oC : Int))
        have p2 : LayAt (put2 w5 rb6 (.int .i64 (oR : Int)) (.int .i64 (oC : Int))) lb sb S V := (hL3.on kp5.drew_left).put2 hne.out (kp5.drew_left.nocell hzl id HN10.out) _ _
        generalize put2 w5 rb6 (.int .i64 (oR : Int)) (.int .i64 (oC : Int)) = w9 at p1 p2 p3 p4 ⊢
        exact bodyPost_ret (v := .tuple #[addrV oR oC, .bool true]) (by simp [results, Try.results16, go_sem, p3, p4]; rfl) rfl (HitPost.yes HN.out p1 p2)
end Go.Proofs.Qxb6500653a
