/-
  A LINE OF THE SCREEN IN MEMORY; draw (59).
-/
import Derived.Test.Qxb6500653aHit
namespace Go.Proofs.Qxb6500653a
open Go.RowKit

/-- one position -/
structure Spot where
  own : Bool
  oR : Nat
  oC : Nat
  drawn : Bool
  fR : Nat
  fC : Nat
  ch : Nat
deriving DecidableEq
def Spot.zero : Spot := ⟨false, 0, 0, false, 0, 0, 0⟩
structure SpotAt (w : World) (g o : Nat) (s : Spot) : Prop where
  c0 : w.cell? ⟨g, o, none⟩ = some (.bool s.own)
  c1 : w.cell? ⟨g, o + 1, none⟩ = some (.int .i64 (s.oR : Int))
  c2 : w.cell? ⟨g, o + 2, none⟩ = some (.int .i64 (s.oC : Int))
  c3 : w.cell? ⟨g, o + 3, none⟩ = some (.bool s.drawn)
  c4 : w.cell? ⟨g, o + 4, none⟩ = some (.int .i64 (s.fR : Int))
  c5 : w.cell? ⟨g, o + 5, none⟩ = some (.int .i64 (s.fC : Int))
  c6 : w.cell? ⟨g, o + 6, none⟩ = some (.int .u8 (s.ch : Int))
structure LineAt (w : World) (g off : Nat) (L : Nat → Spot) : Prop where
  at_ : ∀ x, x < 80 → SpotAt w g (off + x * 7) (L x)
  free : ∀ o, w.frozen? ⟨g, o, none⟩ = false
/-- one line alone was written -/
structure LinePut (g off : Nat) (w w' : World) : Prop where
  kp : Kp (one g) w w'
  out : ∀ o, o < off ∨ off + 560 ≤ o → w'.cell? ⟨g, o, none⟩ = w.cell? ⟨g, o, none⟩

theorem LineAt.lt {w : World} {g off : Nat} {L : Nat → Spot} (h : LineAt w g off L) : g < w.heap.size := cell_lt (h.at_ 0 (by omega)).c0
theorem SpotAt.same {w w' : World} {g o : Nat} {s : Spot} (h : SpotAt w g o s) (e : ∀ j, j < 7 → w'.cell? ⟨g, o + j, none⟩ = w.cell? ⟨g, o + j, none⟩) : SpotAt w' g o s :=
  ⟨(e 0 (by omega)).trans h.c0, (e 1 (by omega)).trans h.c1, (e 2 (by omega)).trans h.c2, (e 3 (by omega)).trans h.c3, (e 4 (by omega)).trans h.c4, (e 5 (by omega)).trans h.c5, (e 6 (by omega)).trans h.c6⟩
theorem LineAt.on {w w' : World} {g off : Nat} {L : Nat → Spot} (h : LineAt w g off L) (k : Kp no w w') : LineAt w' g off L :=
  ⟨fun x hx => (h.at_ x hx).same fun _ _ => World.cell?_of_block (w := w) (k.block g h.lt id), fun o => (k.frozen (p := ⟨g, o, none⟩) h.lt id).trans (h.free o)⟩
theorem LineAt.cong {w : World} {g off : Nat} {L L' : Nat → Spot} (h : LineAt w g off L) (e : ∀ x, x < 80 → L x = L' x) : LineAt w g off L' := ⟨fun x hx => by rw [← e x hx]; exact h.at_ x hx, h.free⟩
theorem LinePut.refl (g off : Nat) (w : World) : LinePut g off w w := ⟨Kp.refl _ _, fun _ _ => rfl⟩
theorem LinePut.trans {g off : Nat} {a b c : World} (h : LinePut g off a b) (k : LinePut g off b c) : LinePut g off a c := ⟨h.kp.trans k.kp, fun o ho => (k.out o ho).trans (h.out o ho)⟩
theorem LinePut.of_no {g off : Nat} {w w' : World} (k : Kp no w w') (hg : g < w.heap.size) : LinePut g off w w' := ⟨Kp.of_no k, fun _ _ => World.cell?_of_block (w := w) (k.block g hg id)⟩
theorem LineAt.boo {w : World} {g off : Nat} {L : Nat → Spot} (h : LineAt w g off L) (h0 : ∃ b, w.cell? ⟨g, 0, none⟩ = some (.bool b)) : Boo (one g) w := fun b hb => by subst hb; exact h0

/-- a text's character at a position -/
def chAt (t : ByteArray) (start : Int) (x : Nat) : Nat := (t.data.toList.getD ((x : Int) - start).toNat 0).toNat
/-- draw: where it stands, and nothing stands yet -/
def drawOn (L : Nat → Spot) (r c : Nat) (t : ByteArray) (start lo hi : Int) (x : Nat) : Spot :=
  if max start lo ≤ (x : Int) ∧ (x : Int) < min (start + t.size) hi ∧ (L x).drawn = false then { L x with drawn := true, fR := r, fC := c, ch := chAt t start x } else L x

/-- four cells of one position -/
def put4s (w : World) (g o : Nat) (x3 x4 x5 x6 : Value) : World := (((w.setCell ⟨g, o + 3, none⟩ x3).setCell ⟨g, o + 4, none⟩ x4).setCell ⟨g, o + 5, none⟩ x5).setCell ⟨g, o + 6, none⟩ x6
theorem put4s_out {w : World} {g o : Nat} {x3 x4 x5 x6 : Value} {j : Nat} (h : j < o + 3 ∨ o + 6 < j) : (put4s w g o x3 x4 x5 x6).cell? ⟨g, j, none⟩ = w.cell? ⟨g, j, none⟩ := by
  unfold put4s
  rw [cset_ne _ _ _ _ _ (by omega), cset_ne _ _ _ _ _ (by omega), cset_ne _ _ _ _ _ (by omega), cset_ne _ _ _ _ _ (by omega)]
theorem LineAt.drew4 {w : World} {g off : Nat} {L : Nat → Spot} (h : LineAt w g off L) {x : Nat} (hx : x < 80) (r c ch : Nat) :
    LineAt (put4s w g (off + x * 7) (.bool true) (.int .i64 (r : Int)) (.int .i64 (c : Int)) (.int .u8 (ch : Int))) g off (fun q => if q = x then { L x with drawn := true, fR := r, fC := c, ch := ch } else L q) ∧
    LinePut g off w (put4s w g (off + x * 7) (.bool true) (.int .i64 (r : Int)) (.int .i64 (c : Int)) (.int .u8 (ch : Int))) := by
  have hs := h.at_ x hx
  refine ⟨⟨fun q hq => ?_, fun o => ?_⟩, ?_, fun o ho => put4s_out (by omega)⟩
  · by_cases e : q = x
    · subst e
      rw [if_pos rfl]
      refine ⟨(put4s_out (by omega)).trans hs.c0, (put4s_out (by omega)).trans hs.c1, (put4s_out (by omega)).trans hs.c2, ?_, ?_, ?_, ?_⟩
      · exact keepc (by omega) (keepc (by omega) (keepc (by omega) (cset_eq _ _ _ _ hs.c3)))
      · exact keepc (by omega) (keepc (by omega) (cset_eq _ _ _ _ (keepc (by omega) hs.c4)))
      · exact keepc (by omega) (cset_eq _ _ _ _ (keepc (by omega) (keepc (by omega) hs.c5)))
      · exact cset_eq _ _ _ _ (keepc (by omega) (keepc (by omega) (keepc (by omega) hs.c6)))
    · rw [if_neg e]
      exact (h.at_ q hq).same fun j hj => put4s_out (by omega)
  · unfold put4s
    rw [World.frozen?_setCell, World.frozen?_setCell, World.frozen?_setCell, World.frozen?_setCell]
    exact h.free o
  · exact Kp.setCell (Kp.setCell (Kp.setCell (Kp.setCell (Kp.refl (one g) w) (p := ⟨g, _, none⟩) (fun _ => rfl) _) (p := ⟨g, _, none⟩) (fun _ => rfl) _) (p := ⟨g, _, none⟩) (fun _ => rfl) _) (p := ⟨g, _, none⟩) (fun _ => rfl) _

set_option maxRecDepth 100000 in
set_option maxHeartbeats 2000000 in
theorem draw_at (w : World) (g off : Nat) (L : Nat → Spot) (hl : LineAt w g off L) (r c : Nat) (t : ByteArray) (start lo hi : Int) (hlo : 0 ≤ lo) (hhi : hi ≤ 80) (hs1 : -1000000 ≤ start) (hs2 : start ≤ 1000000) (ht : t.size ≤ 65536) :
    Calls Try.prog 59 #[.slice (some ⟨g, off, none⟩) 80 80, .agg #[.int .i64 (r : Int), .int .i64 (c : Int)], .string t, .int .i64 start, .int .i64 lo, .int .i64 hi] w
      fun e w' => e = .returned (.tuple #[]) ∧ LineAt w' g off (drawOn L r c t start lo hi) ∧ LinePut g off w w' := by
  obtain ⟨m, hm⟩ : ∃ m : Nat, (m : Int) = max start lo := ⟨(max start lo).toNat, Int.toNat_of_nonneg (by omega)⟩
  obtain ⟨E, hE⟩ : ∃ E, E = min (start + (t.size : Int)) hi := ⟨_, rfl⟩
  have e1 : (if start < lo then lo else start) = (m : Int) := by split <;> omega
  have e2 : (if hi < start + (t.size : Int) then hi else start + (t.size : Int)) = E := by split <;> omega
  have HD : Hid (∀ x : Nat, drawOn L r c t start lo hi x = if (m : Int) ≤ (x : Int) ∧ (x : Int) < E ∧ (L x).drawn = false then { L x with drawn := true, fR := r, fC := c, ch := chAt t start x } else L x) := fun x => by unfold drawOn; rw [hm, hE]
  have hE80 : E ≤ 80 := by omega
  have hEt : E ≤ start + (t.size : Int) := by omega
  have hms : start ≤ (m : Int) := by omega
  clear hm hE
  obtain ⟨w1, hw1⟩ : ∃ w1, w1 = w.alloc (.cells #[.int .i64 (r : Int), .int .i64 (c : Int)] 31) := ⟨_, rfl⟩
  obtain ⟨ad, had⟩ : ∃ ad, ad = w.heap.size := ⟨_, rfl⟩
  have k1 : Kp no w w1 := by rw [hw1]; exact (Kp.refl _ _).alloc _
  obtain ⟨v0, v1⟩ : w1.cell? ⟨ad, 0, none⟩ = some (.int .i64 (r : Int)) ∧ w1.cell? ⟨ad, 1, none⟩ = some (.int .i64 (c : Int)) := by
    subst hw1 had
    exact ⟨by simp, by simp⟩
  have hne : ad ≠ g := by rw [had]; exact Nat.ne_of_gt hl.lt
  have hl1 := hl.on k1
  have HP1 : Hid (LinePut g off w w1) := LinePut.of_no k1 hl.lt
  clear hl k1
  go_enter Try.func59, Try.ntmps59
  go_wp2_with fail
  rw [← had, ← hw1]
  clear had hw1
  go_loopw [12] (fun xv wr => ∃ x : Nat, xv = .int .i64 (x : Int) ∧ m ≤ x ∧ (x ≤ m ∨ (x : Int) ≤ E) ∧ LineAt wr g off (fun q => if m ≤ q ∧ q < x ∧ (L q).drawn = false then { L q with drawn := true, fR := r, fC := c, ch := chAt t start q } else L q) ∧ LinePut g off w1 wr) (fun xv _ => (E - intOf xv).toNat)
  case atStart => exact ⟨m, rfl, Nat.le_refl _, Or.inl (Nat.le_refl _), hl1.cong (fun q _ => by rw [if_neg (by omega)]), LinePut.refl _ _ _⟩
  case round =>
    clear hl1
    obtain ⟨x, rfl, hx1, hx2, hl, hp⟩ := hrel
    by_cases hlt : (x : Int) < E
    · have hx80 : x < 80 := by omega
      have hsx := hl.at_ x hx80
      rw [if_neg (by omega)] at hsx
      have c3 := hsx.c3
      have i80 : (x : Int) < 80 := by omega
      have ca := hp.kp.cell v0 hne
      have cb := hp.kp.cell v1 hne
      have dlt : decide ((x : Int) < E) = true := by simp [hlt]
      cases hdr : (L x).drawn with
      | true =>
        rw [hdr] at c3
        go_wp2_with fail
        refine ⟨⟨x + 1, by go_num, by omega, Or.inr (by omega), hl.cong (fun q _ => ?_), hp⟩, by simp [intOf]; omega⟩
        by_cases e : q = x
        · subst e
          rw [if_neg (by omega), if_neg (by rw [hdr]; simp)]
        · have y : q < x + 1 ↔ q < x := by omega
          simp only [y]
      | false =>
        rw [hdr] at c3
        obtain ⟨d, hd⟩ : ∃ d : Nat, (x : Int) - start = (d : Int) := ⟨((x : Int) - start).toNat, (Int.toNat_of_nonneg (by omega)).symm⟩
        have hdl : d < t.size := by omega
        have c4 := hsx.c4
        have c5 := hsx.c5
        have c6 := hsx.c6
        have f3 := hl.free (off + x * 7 + 3)
        have f4 := hl.free (off + x * 7 + 4)
        have f5 := hl.free (off + x * 7 + 5)
        have f6 := hl.free (off + x * 7 + 6)
        have hwd : IntKind.i64.wrap ((x : Int) - start) = (d : Int) := by rw [IntKind.wrap_i64]; omega
        have i81 : (d : Int) < (t.size : Int) := by omega
        have i82 : (0 : Int) ≤ (d : Int) := by omega
        go_wp2_with fail
        go_region
        all_goals go_wp2_with fail
        have hch : chAt t start x = t[d].toNat := by
          unfold chAt
          rw [hd, Int.toNat_natCast, List.getD_eq_getElem?_getD, List.getElem?_eq_getElem (by simpa using hdl)]
          rfl
        obtain ⟨q1, q2⟩ := hl.drew4 hx80 r c t[d].toNat
        refine ⟨⟨x + 1, by go_num, by omega, Or.inr (by omega), (q1.on (Kp.refl _ _).drew).cong (fun q _ => ?_), (hp.trans q2).trans (LinePut.of_no (Kp.refl _ _).drew q1.lt)⟩, by simp [intOf]; omega⟩
        by_cases e : q = x
        · subst e
          have n1 : ¬ (m ≤ q ∧ q < q ∧ (L q).drawn = false) := by omega
          have n2 : m ≤ q ∧ q < q + 1 ∧ (L q).drawn = false := ⟨hx1, by omega, hdr⟩
          rw [if_pos rfl, if_neg n1, if_pos n2, hch]
        · have y : q < x + 1 ↔ q < x := by omega
          simp only [e, if_false, y]
    · have dlt : decide ((x : Int) < E) = false := by simp; omega
      have HF : Hid (LineAt wr g off (drawOn L r c t start lo hi)) := hl.cong (fun q _ => by
        rw [HD.out q]
        have y : (m ≤ q ∧ q < x ∧ (L q).drawn = false) ↔ ((m : Int) ≤ (q : Int) ∧ (q : Int) < E ∧ (L q).drawn = false) := by
          constructor
          · rintro ⟨a1, a2, a3⟩; exact ⟨by omega, by omega, a3⟩
          · rintro ⟨a1, a2, a3⟩; exact ⟨by omega, by omega, a3⟩
        simp only [y])
      go_wp2_with fail
      go_end0
      exact ⟨rfl, HF.out, HP1.out.trans hp⟩
end Go.Proofs.Qxb6500653a
