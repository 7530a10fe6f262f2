/-
  Reveal (33).
-/
import Derived.Test.Qxb6500653aMoves2
namespace Go.Proofs.Qxb6500653a
open Go.RowKit

def RevTo (A : Ax) (line scroll r : Nat) : Prop := (line < A.fz ∧ r = scroll) ∨ (A.fz ≤ line ∧ line ≤ scroll ∧ r = line) ∨ (A.fz ≤ line ∧ scroll < line ∧ RevAt A.sz line scroll (A.m - A.edge) r)
def RTPost (A : Ax) (line scroll : Nat) (w : World) (e : Ending) (w' : World) : Prop := ∃ r : Nat, e = .returned (.int .i64 (r : Int)) ∧ RevTo A line scroll r ∧ ∃ q, w' = w.drewN q

theorem reveal_any (w : World) (ab : Nat) (A : Ax) (hA : AxAt w ab A) (hok : A.Ok) (line scroll : Nat) (hl : line < A.n) (mv : Int) (hmv : mv = (A.m : Int)) :
    Calls Try.prog 47 #[.pointer (some ⟨ab, 0, none⟩), .int .i64 (line : Int), .int .i64 (scroll : Int), .int .i64 mv] w (RTPost A line scroll w) := by
  subst hmv
  by_cases h1 : line < A.fz
  · exact (reveal_frozen w ab A hA line scroll h1 _).mono fun e w' ⟨he, hw⟩ => ⟨scroll, he, Or.inl ⟨h1, rfl⟩, 0, hw⟩
  · by_cases h2 : line ≤ scroll
    · exact (reveal_near w ab A hA line scroll (by omega) h2 _).mono fun e w' ⟨he, hw⟩ => ⟨line, he, Or.inr (Or.inl ⟨by omega, h2, rfl⟩), 0, hw⟩
    · exact (reveal_far w ab A hA hok line scroll hl (by omega) (by omega)).mono fun e w' ⟨r, he, hr, hq⟩ => ⟨r, he, Or.inr (Or.inr ⟨by omega, by omega, hr⟩), hq⟩

/-- four cells in a block of the call's own -/
structure Box4 (w w' : World) (b : Nat) (x0 x1 x2 x3 : Value) : Prop where
  kp : Kp no w w'
  new : w.heap.size ≤ b
  c0 : w'.cell? ⟨b, 0, none⟩ = some x0
  c1 : w'.cell? ⟨b, 1, none⟩ = some x1
  c2 : w'.cell? ⟨b, 2, none⟩ = some x2
  c3 : w'.cell? ⟨b, 3, none⟩ = some x3
  free : ∀ o, w'.frozen? ⟨b, o, none⟩ = false
theorem Box4.on {w w' w'' : World} {b : Nat} {x0 x1 x2 x3 : Value} (h : Box4 w w' b x0 x1 x2 x3) (k : Kp no w' w'') : Box4 w w'' b x0 x1 x2 x3 :=
  ⟨h.kp.trans k, h.new, k.cell h.c0 id, k.cell h.c1 id, k.cell h.c2 id, k.cell h.c3 id, fun o => (k.frozen (p := ⟨b, o, none⟩) (show b < w'.heap.size from cell_lt h.c0) id).trans (h.free o)⟩
theorem Box4.set2 {w w' : World} {b : Nat} {x0 x1 x2 x3 : Value} (h : Box4 w w' b x0 x1 x2 x3) (v : Value) : Box4 w (w'.setCell ⟨b, 2, none⟩ v) b x0 x1 v x3 :=
  ⟨h.kp.setCell (fun h' => absurd h' (Nat.not_lt.2 h.new)) _, h.new, keepc (by decide) h.c0, keepc (by decide) h.c1, cset_eq _ _ _ _ h.c2, keepc (by decide) h.c3, fun o => by rw [World.frozen?_setCell]; exact h.free o⟩
theorem Box4.set3 {w w' : World} {b : Nat} {x0 x1 x2 x3 : Value} (h : Box4 w w' b x0 x1 x2 x3) (v : Value) : Box4 w (w'.setCell ⟨b, 3, none⟩ v) b x0 x1 x2 v :=
  ⟨h.kp.setCell (fun h' => absurd h' (Nat.not_lt.2 h.new)) _, h.new, keepc (by decide) h.c0, keepc (by decide) h.c1, keepc (by decide) h.c2, cset_eq _ _ _ _ h.c3, fun o => by rw [World.frozen?_setCell]; exact h.free o⟩

/-- the view behind a reveal -/
structure RevVw (S : Sh) (V V' : Vw) (r c : Nat) : Prop where
  fr : V'.fr = V.fr
  fc : V'.fc = V.fc
  row : RevTo (rowAx S V 0 0 0) r V.sr V'.sr
  col : RevTo (colAx S V 0 0 0) c V.sc V'.sc
theorem RevTo.bounds {A : Ax} {line scroll r : Nat} (h : RevTo A line scroll r) (hl : line < A.n) (hs : scroll < A.n) (hf : A.fz ≤ scroll) : A.fz ≤ r ∧ r < A.n := by
  rcases h with ⟨_, rfl⟩ | ⟨h1, _, rfl⟩ | ⟨h1, h2, h3⟩
  · omega
  · omega
  · have := h3.lo
    have := h3.hi
    omega

/-- the cell lies in the sheet: the view turns so; else it stays -/
def RvPost (lb sb : Nat) (S : Sh) (V : Vw) (r c : Int) (w : World) (e : Ending) (w' : World) : Prop := ∃ (cd : Int) (V' : Vw), e = .returned (.int .i64 cd) ∧ Kp (one lb) w w' ∧ LayAt w' lb sb S V' ∧ V'.Ok ∧ 0 ≤ cd ∧ cd ≤ 1 ∧ (inS r c = false → V' = V) ∧ (∀ rn cn : Nat, r = (rn : Int) → c = (cn : Int) → inS r c = true → RevVw S V V' rn cn)

set_option maxRecDepth 100000 in
set_option maxHeartbeats 1000000 in
theorem revealM_at (w : World) (lb sb : Nat) (S : Sh) (V : Vw) (h : SheetAt w sb S) (hS : S.Ok) (hL : LayAt w lb sb S V) (hV : V.Ok) (r c : Int) :
    Calls Try.prog 33 #[.pointer (some ⟨lb, 0, none⟩), .agg #[.int .i64 r, .int .i64 c]] w (RvPost lb sb S V r c w) := by
  obtain ⟨w1, hw1⟩ : ∃ w1, w1 = w.alloc (.cells #[.int .i64 r, .int .i64 c] 31) := ⟨_, rfl⟩
  obtain ⟨ad, had⟩ : ∃ ad, ad = w.heap.size := ⟨_, rfl⟩
  have HK1 : Hid (Kp no w w1) := by show Kp no w w1; rw [hw1]; exact (Kp.refl _ _).alloc _
  obtain ⟨v0, v1⟩ : w1.cell? ⟨ad, 0, none⟩ = some (.int .i64 r) ∧ w1.cell? ⟨ad, 1, none⟩ = some (.int .i64 c) := by
    subst hw1 had
    exact ⟨by simp, by simp⟩
  cases h1 : inS r c with
  | false =>
    go_enter Try.func33, Try.ntmps33
    go_wp2_with fail
    rw [← had, ← hw1]
    clear had hw1
    refine (inSheet_at w1 r c).mono ?_
    rw [h1]
    rintro e w2 ⟨rfl, k2⟩
    go_wp2_with fail
    go_ret
    exact ⟨1, V, rfl, Kp.of_no (HK1.out.trans k2), hL.on (HK1.out.trans k2), hV, by decide, by decide, fun _ => rfl, fun _ _ _ _ h => by rw [h1] at h; cases h⟩
  | true =>
    obtain ⟨rn, cn, rfl, rfl, hr, hc⟩ := inS_nat h1
    go_enter Try.func33, Try.ntmps33
    go_wp2_with fail
    rw [← had, ← hw1]
    have hadl : Hid (ad ≠ lb) := by show ad ≠ lb; rw [had]; exact Nat.ne_of_gt hL.lt
    clear had hw1
    refine (inSheet_at w1 rn cn).mono ?_
    rw [h1]
    rintro e w2 ⟨rfl, k2⟩
    have x0 := k2.cell v0 id
    have x1 := k2.cell v1 id
    have HK2 : Hid (Kp no w w2) := HK1.out.trans k2
    clear v0 v1 k2
    go_wp2_with fail
    refine (axes_at w2 lb sb S V (h.on HK2.out) hS hV (hL.on HK2.out)).mono ?_
    rintro e w3 ⟨rb, cb, rfl, k3, hA3, hL3⟩
    have y0 := k3.cell x0 hadl.out
    have y1 := k3.cell x1 hadl.out
    have c1 := hL3.c1
    have c2 := hL3.c2
    have c3 := hL3.c3
    have c4 := hL3.c4
    have hlt := hL3.lt
    have hltb : ad < w3.heap.size := cell_lt y0
    obtain ⟨w4, hw4⟩ : ∃ w4, w4 = w3.alloc (.cells #[.int .i64 (V.fr : Int), .int .i64 (V.fc : Int), .int .i64 (V.sr : Int), .int .i64 (V.sc : Int)] 44) := ⟨_, rfl⟩
    obtain ⟨vb, hvb⟩ : ∃ vb, vb = w3.heap.size := ⟨_, rfl⟩
    have HK4 : Hid (Kp no w3 w4) := by show Kp no w3 w4; rw [hw4]; exact (Kp.refl _ _).alloc _
    have HF4 : Hid (w4.cell? ⟨vb, 0, none⟩ = some (.int .i64 (V.fr : Int)) ∧ w4.cell? ⟨vb, 1, none⟩ = some (.int .i64 (V.fc : Int)) ∧ w4.cell? ⟨vb, 2, none⟩ = some (.int .i64 (V.sr : Int)) ∧ w4.cell? ⟨vb, 3, none⟩ = some (.int .i64 (V.sc : Int)) ∧ ∀ o, w4.frozen? ⟨vb, o, none⟩ = false) := by
      subst hw4 hvb
      exact ⟨by simp, by simp, by simp, by simp, fun o => by simp⟩
    go_upto_region 5 with fail
    rw [← hvb, ← hw4]
    have hnew : Hid (w3.heap.size ≤ vb) := by show _ ≤ _; omega
    clear hvb hw4
    have hB4 : Box4 w3 w4 vb (.int .i64 (V.fr : Int)) (.int .i64 (V.fc : Int)) (.int .i64 (V.sr : Int)) (.int .i64 (V.sc : Int)) := ⟨HK4.out, hnew.out, HF4.out.1, HF4.out.2.1, HF4.out.2.2.1, HF4.out.2.2.2.1, HF4.out.2.2.2.2⟩
    have z0 := HK4.out.cell y0 id
    have f2 := hB4.c2
    obtain ⟨a1, a2, a3, hrow⟩ := (hA3.on hB4.kp).row
    clear x0 x1 c1 c2 c3 c4
    go_wp2_with fail
    refine (reveal_any w4 rb _ hrow ((rowOk hS hV).ok _ _ _ _) rn V.sr hr 24 rfl).mono ?_
    rintro e w5 ⟨r', rfl, hr', q, rfl⟩
    have hB5 := hB4.on ((Kp.refl _ _).drewN q)
    generalize w4.drewN q = w5 at hB5 ⊢
    have f2 := hB5.c2
    have g2 := hB5.free 2
    have hB6 := hB5.set2 (.int .i64 (r' : Int))
    go_upto_region 6 with fail
    generalize w5.setCell ⟨vb, 2, none⟩ (.int .i64 (r' : Int)) = w6 at hB6 ⊢
    clear hB5 hB4 f2 g2 hrow z0 hltb
    have z1 := hB6.kp.cell y1 id
    have f3 := hB6.c3
    obtain ⟨b1, b2, b3, hcol⟩ := (hA3.on hB6.kp).col
    go_wp2_with fail
    refine (reveal_any w6 cb _ hcol ((colOk hS hV).ok _ _ _ _) cn V.sc hc 80 rfl).mono ?_
    rintro e w7 ⟨c', rfl, hc', q2, rfl⟩
    have hB7 := hB6.on ((Kp.refl _ _).drewN q2)
    generalize w6.drewN q2 = w7 at hB7 ⊢
    have f3 := hB7.c3
    have g3 := hB7.free 3
    have hB8 := hB7.set3 (.int .i64 (c' : Int))
    go_upto_region 7 with fail
    generalize w7.setCell ⟨vb, 3, none⟩ (.int .i64 (c' : Int)) = w8 at hB8 ⊢
    clear hB7 hB6 f3 g3 hcol z1
    have d0 := hB8.c0
    have d1 := hB8.c1
    have d2 := hB8.c2
    have d3 := hB8.c3
    have HRV : Hid (RevVw S V ⟨V.fr, V.fc, r', c'⟩ rn cn) := ⟨rfl, rfl, hr', hc'⟩
    have HOK : Hid (Vw.Ok ⟨V.fr, V.fc, r', c'⟩) := by
      have q1 := hr'.bounds hr hV.sr hV.r
      have q2 := hc'.bounds hc hV.sc hV.c
      exact ⟨q1.1, q2.1, q1.2, q2.2⟩
    clear hr' hc'
    go_wp2_with fail
    refine (setView_at w8 lb sb S V ⟨V.fr, V.fc, r', c'⟩ (hL3.on hB8.kp)).mono ?_
    rintro e w9 ⟨rfl, k9, hL9⟩
    go_wp2_with fail
    go_ret
    refine ⟨0, ⟨V.fr, V.fc, r', c'⟩, rfl, (((Kp.of_no HK2.out).trans k3).trans (Kp.of_no hB8.kp)).trans k9, hL9, HOK.out, by decide, by decide, ?_, ?_⟩
    · intro h
      rw [h1] at h
      cases h
    · intro r1 c1 e1 e2 _
      obtain rfl : rn = r1 := by omega
      obtain rfl : cn = c1 := by omega
      exact HRV.out
end Go.Proofs.Qxb6500653a
