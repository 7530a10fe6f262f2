/-
  Reach (26).
-/
import Derived.Test.Qxb6500653aPaint
import Derived.Test.Qxb6500653aRects
import Derived.Test.Qxb6500653aPanes
namespace Go.Proofs.Qxb6500653a
open Go.RowKit

/-- the first and the last position that bear a character of the cell's text -/
def scanK (L : Nat → Spot) (r c : Nat) : Nat → Nat × Nat
  | 0 => (0, 0)
  | x + 1 => if (L x).drawn = true ∧ (L x).fR = r ∧ (L x).fC = c then (if (scanK L r c x).2 = 0 then x else (scanK L r c x).1, x + 1) else scanK L r c x
theorem scan_le (L : Nat → Spot) (r c x : Nat) : (scanK L r c x).2 ≤ x := by
  induction x with
  | zero => exact Nat.le_refl _
  | succ x ih =>
    simp only [scanK]
    split
    · exact Nat.le_refl _
    · omega
def blank : Nat → Spot := fun _ => Spot.zero
/-- Reach's answer -/
noncomputable def reachR (S : Sh) (V : Vw) (r c : Int) : Rc × Bool :=
  if inS r c = true ∧ ownR S.mg r.toNat c.toNat = r.toNat ∧ ownC S.mg r.toNat c.toNat = c.toNat then
    if tlOk (rowAx S V 0 0 0) r.toNat (areaOf S r.toNat c.toNat).b = true then
      (⟨tlY (rowAx S V 0 0 0) r.toNat (areaOf S r.toNat c.toNat).b, (scanK (paintOf S V (tlY (rowAx S V 0 0 0) r.toNat (areaOf S r.toNat c.toNat).b).toNat 0 80 blank) r.toNat c.toNat 80).1, tlY (rowAx S V 0 0 0) r.toNat (areaOf S r.toNat c.toNat).b + 1, (scanK (paintOf S V (tlY (rowAx S V 0 0 0) r.toNat (areaOf S r.toNat c.toNat).b).toNat 0 80 blank) r.toNat c.toNat 80).2⟩,
        decide (0 < (scanK (paintOf S V (tlY (rowAx S V 0 0 0) r.toNat (areaOf S r.toNat c.toNat).b).toNat 0 80 blank) r.toNat c.toNat 80).2))
    else (⟨0, 0, 0, 0⟩, false)
  else (⟨0, 0, 0, 0⟩, false)
def ReachPost (lb sb : Nat) (S : Sh) (V : Vw) (r c : Int) (w : World) (e : Ending) (w' : World) : Prop :=
  e = .returned (.tuple #[.agg #[.int .i64 (reachR S V r c).1.y0, .int .i64 (reachR S V r c).1.x0, .int .i64 (reachR S V r c).1.y1, .int .i64 (reachR S V r c).1.x1], .bool (reachR S V r c).2]) ∧ Kp (one lb) w w' ∧ LayAt w' lb sb S V
theorem ReachPost.no {lb sb : Nat} {S : Sh} {V : Vw} {r c : Int} {w w' : World} (h : reachR S V r c = (⟨0, 0, 0, 0⟩, false)) (k : Kp (one lb) w w') (hL : LayAt w' lb sb S V) : ReachPost lb sb S V r c w (.returned (.tuple #[.agg #[.int .i64 0, .int .i64 0, .int .i64 0, .int .i64 0], .bool false])) w' := by
  refine ⟨?_, k, hL⟩
  rw [h]

/-- where Reach writes its rectangle -/
structure Out4 (w w1 : World) (b4 : Nat) : Prop where
  kp : Kp no w w1
  c0 : w1.cell? ⟨b4, 0, none⟩ = some (.int .i64 0)
  c1 : w1.cell? ⟨b4, 1, none⟩ = some (.int .i64 0)
  c2 : w1.cell? ⟨b4, 2, none⟩ = some (.int .i64 0)
  c3 : w1.cell? ⟨b4, 3, none⟩ = some (.int .i64 0)
  c10 : w1.cell? ⟨b4, 10, none⟩ = none
  free : ∀ o, w1.frozen? ⟨b4, o, none⟩ = false
  new : w.heap.size ≤ b4
theorem Out4.lt {w w1 : World} {b4 : Nat} (h : Out4 w w1 b4) : b4 < w1.heap.size := cell_lt h.c0
theorem Out4.on {w w1 w2 : World} {b4 : Nat} (h : Out4 w w1 b4) (k : Kp no w1 w2) : Out4 w w2 b4 :=
  ⟨h.kp.trans k, k.cell h.c0 id, k.cell h.c1 id, k.cell h.c2 id, k.cell h.c3 id, k.nocell h.lt id h.c10, fun o => (k.frozen (p := ⟨b4, o, none⟩) h.lt id).trans (h.free o), h.new⟩
theorem LayAt.put4 {w : World} {lb sb : Nat} {S : Sh} {V : Vw} (h : LayAt w lb sb S V) {b : Nat} (hb : b ≠ lb) (h10 : w.cell? ⟨b, 10, none⟩ = none) (x0 x1 x2 x3 : Value) : LayAt (put4 w b x0 x1 x2 x3) lb sb S V :=
  h.tiny (X := one b) (Kp.put4 (Kp.refl (one b) w) (b := b) (fun _ => rfl) _ _ _ _) (fun e => hb e.symm) (fun c hc => by cases hc; exact h10)

theorem zeroCells53 : Try.zeroCells53 = Builtin.zeroCells zero7 80 := by kernel_rfl
theorem line_new (w : World) : LineAt (w.alloc (.cells Try.zeroCells53 53)) w.heap.size 0 blank := by
  have g7 : ∀ x, x < 80 → ∀ j, j < 7 → (w.alloc (.cells Try.zeroCells53 53)).cell? ⟨w.heap.size, 0 + x * 7 + j, none⟩ = zero7[j]? := fun x hx j hj => by
    rw [World.cell?_alloc_new, zeroCells53, Nat.zero_add, ← Array.getElem?_toList]
    exact zeros_at 80 x j hx hj
  exact ⟨fun x hx => ⟨g7 x hx 0 (by omega), g7 x hx 1 (by omega), g7 x hx 2 (by omega), g7 x hx 3 (by omega), g7 x hx 4 (by omega), g7 x hx 5 (by omega), g7 x hx 6 (by omega)⟩, fun o => by simp⟩
theorem LineAt.kp {X : Nat → Prop} {w w' : World} {g off : Nat} {L : Nat → Spot} (h : LineAt w g off L) (k : Kp X w w') (hx : ¬ X g) : LineAt w' g off L :=
  ⟨fun x hx' => (h.at_ x hx').same fun _ _ => World.cell?_of_block (w := w) (k.block g h.lt hx), fun o => (k.frozen (p := ⟨g, o, none⟩) h.lt hx).trans (h.free o)⟩
theorem Box4.set1 {w w' : World} {b : Nat} {x0 x1 x2 x3 : Value} (h : Box4 w w' b x0 x1 x2 x3) (v : Value) : Box4 w (w'.setCell ⟨b, 1, none⟩ v) b x0 v x2 x3 :=
  ⟨h.kp.setCell (fun h' => absurd h' (Nat.not_lt.2 h.new)) _, h.new, keepc (by decide) h.c0, cset_eq _ _ _ _ h.c1, keepc (by decide) h.c2, keepc (by decide) h.c3, fun o => by rw [World.frozen?_setCell]; exact h.free o⟩
theorem Box4n.set1 {w w' : World} {b : Nat} {x0 x1 x2 x3 : Value} (h : Box4n w w' b x0 x1 x2 x3) (v : Value) : Box4n w (w'.setCell ⟨b, 1, none⟩ v) b x0 v x2 x3 := ⟨h.box.set1 v, (cset_ne _ _ _ _ _ (by decide)).trans h.c4⟩
theorem Box4n.set3 {w w' : World} {b : Nat} {x0 x1 x2 x3 : Value} (h : Box4n w w' b x0 x1 x2 x3) (v : Value) : Box4n w (w'.setCell ⟨b, 3, none⟩ v) b x0 x1 x2 v := ⟨h.box.set3 v, (cset_ne _ _ _ _ _ (by decide)).trans h.c4⟩
theorem tlY_range {A : Ax} (hok : A.Ok) {f t : Nat} (h : tlOk A f t = true) : 0 ≤ tlY A f t ∧ tlY A f t < (A.m : Int) := by
  unfold tlOk tlB at h
  have h' := of_decide_eq_true h
  have hb := (band_in hok (i := homeI A f t)).2
  unfold tlY
  omega

set_option maxRecDepth 100000 in
set_option maxHeartbeats 4000000 in
theorem reach_at (hdr : DrawRowOk) (w : World) (lb sb : Nat) (S : Sh) (V : Vw) (h : SheetAt w sb S) (hS : S.Ok) (hL : LayAt w lb sb S V) (hV : V.Ok) (r c : Int) :
    Calls Try.prog 26 #[.pointer (some ⟨lb, 0, none⟩), .agg #[.int .i64 r, .int .i64 c]] w (ReachPost lb sb S V r c w) := by
  obtain ⟨w1, hw1⟩ : ∃ w1, w1 = (w.alloc (.cells #[.int .i64 r, .int .i64 c] 31)).alloc (.cells #[.int .i64 0, .int .i64 0, .int .i64 0, .int .i64 0] 50) := ⟨_, rfl⟩
  obtain ⟨ad, had⟩ : ∃ ad, ad = w.heap.size := ⟨_, rfl⟩
  obtain ⟨v0, v1⟩ : w1.cell? ⟨ad, 0, none⟩ = some (.int .i64 r) ∧ w1.cell? ⟨ad, 1, none⟩ = some (.int .i64 c) := by
    subst hw1 had
    exact ⟨by simp, by simp⟩
  have HO4 : Hid (Out4 w w1 (ad + 1)) := by
    subst hw1 had
    exact ⟨((Kp.refl _ _).alloc _).alloc _, by simp, by simp, by simp, by simp, by simp, fun o => by simp, by omega⟩
  have HK1 : Hid (Kp no w w1) := HO4.out.kp
  have HI : Hid (∀ w', Calls Try.prog 35 #[.agg #[.int .i64 r, .int .i64 c]] w' fun e w'' => e = .returned (.bool (inS r c)) ∧ Kp no w' w'') := fun w' => inSheet_at w' r c
  have hadl : Hid (ad ≠ lb) := by show ad ≠ lb; rw [had]; have := hL.lt; omega
  have hblb : Hid (ad + 1 ≠ lb) := by show ad + 1 ≠ lb; rw [had]; have := hL.lt; omega
  cases h1 : inS r c with
  | false =>
    rw [h1] at HI
    have HN : Hid (reachR S V r c = (⟨0, 0, 0, 0⟩, false)) := by show _ = _; unfold reachR; exact if_neg (by rw [h1]; simp)
    go_enter Try.func26, Try.ntmps26
    go_wp2_with fail
    rw [← had, ← hw1]
    clear had hw1 h1
    go_cut [25] (fun s25 wx => s25 = .bool true ∧ Kp no w1 wx)
    case first =>
      have t0 : ∀ p : KpOf w1, p.to.cell? ⟨ad, 0, none⟩ = some (.int .i64 r) := fun p => p.h.cell v0 id
      have t1 : ∀ p : KpOf w1, p.to.cell? ⟨ad, 1, none⟩ = some (.int .i64 c) := fun p => p.h.cell v1 id
      refine wp_region_kp (by kernel_rfl) (by kernel_rfl) ?_
      repeat (go_big_quiet_step (exact kp_of (HI.out _)))
      refine wpQuiet_nil ?_
      intro _ hw'
      obtain ⟨⟨wq, kq⟩, hw''⟩ := hw'
      subst hw''
      go_wp2_with fail
      go_meet
      exact ⟨rfl, kq⟩
    case rest =>
      obtain ⟨rfl, k2⟩ := hcut
      have h4 := HO4.out.on k2
      have p0 := h4.c0
      have p1 := h4.c1
      have p2 := h4.c2
      have p3 := h4.c3
      have f0 := h4.free 0
      have f1 := h4.free 1
      have f2 := h4.free 2
      have f3 := h4.free 3
      go_wp2_with fail
      obtain ⟨q0, q1, q2, q3⟩ := put4_at h4.c0 h4.c1 h4.c2 h4.c3 (.int .i64 0) (.int .i64 0) (.int .i64 0) (.int .i64 0)
      have hK := (Kp.of_no (X := one lb) h4.kp).put4 (b := ad + 1) (fun h => absurd h (Nat.not_lt.2 h4.new)) (.int .i64 0) (.int .i64 0) (.int .i64 0) (.int .i64 0)
      have hLL := (hL.on h4.kp).put4 hblb.out h4.c10 (.int .i64 0) (.int .i64 0) (.int .i64 0) (.int .i64 0)
      change bodyPost _ _ _ _ _ (put4 wc (ad + 1) (.int .i64 0) (.int .i64 0) (.int .i64 0) (.int .i64 0))
      generalize put4 wc (ad + 1) (.int .i64 0) (.int .i64 0) (.int .i64 0) (.int .i64 0) = w9 at hK hLL q0 q1 q2 q3 ⊢
      exact bodyPost_ret (v := .tuple #[.agg #[.int .i64 0, .int .i64 0, .int .i64 0, .int .i64 0], .bool false]) (by simp [results, Try.results26, go_sem, q0, q1, q2, q3]) rfl (ReachPost.no HN.out hK hLL)
  | true =>
    obtain ⟨rn, cn, rfl, rfl, hr, hc⟩ := inS_nat h1
    rw [h1] at HI
    obtain ⟨oR, hoR⟩ : ∃ oR, oR = ownR S.mg rn cn := ⟨_, rfl⟩
    obtain ⟨oC, hoC⟩ : ∃ oC, oC = ownC S.mg rn cn := ⟨_, rfl⟩
    have HO : Hid (∀ w', Kp no w1 w' → Calls Try.prog 36 #[.pointer (some ⟨lb, 0, none⟩), .agg #[.int .i64 (rn : Int), .int .i64 (cn : Int)]] w' fun e w'' => e = .returned (.agg #[.int .i64 (oR : Int), .int .i64 (oC : Int)]) ∧ Kp no w' w'') := fun w' k => by
      have := owner_at w' lb sb S (h.on (HK1.out.trans k)) hS ((hL.on (HK1.out.trans k)).src) rn cn
      rw [← hoR, ← hoC] at this
      exact this
    have hneq : ∀ W : World, (binOp .neq 31 (.agg #[.int .i64 (oR : Int), .int .i64 (oC : Int)]) (.agg #[.int .i64 (rn : Int), .int .i64 (cn : Int)])).run Try.prog W = .ok (.bool (!(((oR : Int) == (rn : Int)) && ((oC : Int) == (cn : Int))))) W := fun W => neq31 _ _ _ _ W
    obtain ⟨bo, hbo⟩ : ∃ bo : Bool, (!(((oR : Int) == (rn : Int)) && ((oC : Int) == (cn : Int)))) = bo := ⟨_, rfl⟩
    rw [hbo] at hneq
    have HBO : Hid ((!(((oR : Int) == (rn : Int)) && ((oC : Int) == (cn : Int)))) = bo) := hbo
    have HOR : Hid (oR = ownR S.mg rn cn ∧ oC = ownC S.mg rn cn) := ⟨hoR, hoC⟩
    have H1 : Hid (inS (rn : Int) (cn : Int) = true) := h1
    clear hbo hoR hoC h1
    go_enter Try.func26, Try.ntmps26
    go_wp2_with fail
    rw [← had, ← hw1]
    clear had hw1
    go_cut [25] (fun s25 wx => s25 = .bool bo ∧ Kp no w1 wx)
    case first =>
      have t0 : ∀ p : KpOf w1, p.to.cell? ⟨ad, 0, none⟩ = some (.int .i64 (rn : Int)) := fun p => p.h.cell v0 id
      have t1 : ∀ p : KpOf w1, p.to.cell? ⟨ad, 1, none⟩ = some (.int .i64 (cn : Int)) := fun p => p.h.cell v1 id
      refine wp_region_kp (by kernel_rfl) (by kernel_rfl) ?_
      repeat (go_big_quiet_step (first | exact kp_of (HI.out _) | exact kp_of (HO.out _ (KpOf.h _))))
      refine wpQuiet_nil ?_
      intro _ hw'
      obtain ⟨⟨wq, kq⟩, hw''⟩ := hw'
      subst hw''
      go_wp2_with fail
      go_meet
      exact ⟨rfl, kq⟩
    case rest =>
      obtain ⟨rfl, k2⟩ := hcut
      obtain ⟨w2, rfl⟩ : ∃ w2, w2 = wc := ⟨_, rfl⟩
      cases bo with
      | true =>
        have HN : Hid (reachR S V rn cn = (⟨0, 0, 0, 0⟩, false)) := by
          show _ = _
          unfold reachR
          refine if_neg ?_
          rw [Int.toNat_natCast, Int.toNat_natCast, ← HOR.out.1, ← HOR.out.2]
          rintro ⟨_, e1, e2⟩
          have := HBO.out
          rw [e1, e2] at this
          simp at this
        have h4 := HO4.out.on k2
        have p0 := h4.c0
        have p1 := h4.c1
        have p2 := h4.c2
        have p3 := h4.c3
        have f0 := h4.free 0
        have f1 := h4.free 1
        have f2 := h4.free 2
        have f3 := h4.free 3
        go_wp2_with fail
        obtain ⟨q0, q1, q2, q3⟩ := put4_at h4.c0 h4.c1 h4.c2 h4.c3 (.int .i64 0) (.int .i64 0) (.int .i64 0) (.int .i64 0)
        have hK := (Kp.of_no (X := one lb) h4.kp).put4 (b := ad + 1) (fun h => absurd h (Nat.not_lt.2 h4.new)) (.int .i64 0) (.int .i64 0) (.int .i64 0) (.int .i64 0)
        have hLL := (hL.on h4.kp).put4 hblb.out h4.c10 (.int .i64 0) (.int .i64 0) (.int .i64 0) (.int .i64 0)
        change bodyPost _ _ _ _ _ (put4 w2 (ad + 1) (.int .i64 0) (.int .i64 0) (.int .i64 0) (.int .i64 0))
        generalize put4 w2 (ad + 1) (.int .i64 0) (.int .i64 0) (.int .i64 0) (.int .i64 0) = w9 at hK hLL q0 q1 q2 q3 ⊢
        exact bodyPost_ret (v := .tuple #[.agg #[.int .i64 0, .int .i64 0, .int .i64 0, .int .i64 0], .bool false]) (by simp [results, Try.results26, go_sem, q0, q1, q2, q3]) rfl (ReachPost.no HN.out hK hLL)
      | false =>
        have HN : Hid (reachR S V rn cn = if tlOk (rowAx S V 0 0 0) rn (areaOf S rn cn).b = true then
      (⟨tlY (rowAx S V 0 0 0) rn (areaOf S rn cn).b, (scanK (paintOf S V (tlY (rowAx S V 0 0 0) rn (areaOf S rn cn).b).toNat 0 80 blank) rn cn 80).1, tlY (rowAx S V 0 0 0) rn (areaOf S rn cn).b + 1, (scanK (paintOf S V (tlY (rowAx S V 0 0 0) rn (areaOf S rn cn).b).toNat 0 80 blank) rn cn 80).2⟩,
        decide (0 < (scanK (paintOf S V (tlY (rowAx S V 0 0 0) rn (areaOf S rn cn).b).toNat 0 80 blank) rn cn 80).2))
    else (⟨0, 0, 0, 0⟩, false)) := by
          show _ = _
          unfold reachR
          have hb := HBO.out
          simp only [Bool.not_eq_false', Bool.and_eq_true, beq_iff_eq] at hb
          rw [if_pos ⟨H1.out, by rw [Int.toNat_natCast, Int.toNat_natCast, ← HOR.out.1]; omega, by rw [Int.toNat_natCast, Int.toNat_natCast, ← HOR.out.2]; omega⟩, Int.toNat_natCast, Int.toNat_natCast]
        have HOT : Hid (ownR S.mg rn cn = rn) := by
          show _ = _
          have hb := HBO.out
          simp only [Bool.not_eq_false', Bool.and_eq_true, beq_iff_eq] at hb
          rw [← HOR.out.1]; omega
        obtain ⟨o, ho⟩ : ∃ o, mergeAt S.mg rn cn = o := ⟨_, rfl⟩
        obtain ⟨A, hA⟩ : ∃ A, o.getD ⟨0, 0, 0, 0⟩ = A := ⟨_, rfl⟩
        obtain ⟨b, hb⟩ : ∃ b, o.isSome = b := ⟨_, rfl⟩
        have hm : ∀ w : World, (method 271 38 (.pointer (some ⟨sb, 0, none⟩)) "MergeAt").run Try.prog w = .ok (20, .pointer (some ⟨sb, 0, none⟩)) w := fun _ => by kernel_rfl
        have HKW2 : Hid (Kp no w w2) := HK1.out.trans k2
        have hS2 := h.on HKW2.out
        have HCall : Hid (∀ w' : World, Kp no w2 w' → Calls Try.prog 20 #[.pointer (some ⟨sb, 0, none⟩), .agg #[.int .i64 (rn : Int), .int .i64 (cn : Int)]] w' fun e w'' => e = .returned (.tuple #[.agg #[.int .i64 (A.t : Int), .int .i64 (A.l : Int), .int .i64 (A.b : Int), .int .i64 (A.r : Int)], .bool b]) ∧ Kp no w' w'') :=
          fun w' k => mergeAt_v w' sb S (hS2.on k) hS rn cn o ho A hA b hb
        have HAB : Hid ((if b then A.b else rn) = (areaOf S rn cn).b) := by
          show _ = _
          unfold areaOf
          rw [← hb, ← hA, ho]
          cases o <;> rfl
        have HAT : Hid ((areaOf S rn cn).t = rn) := by
          show _ = _
          have := HOT.out
          unfold ownR at this
          unfold areaOf
          rw [ho] at this ⊢
          cases o with
          | none => rfl
          | some x => exact this
        have hl2 : w2.cell? ⟨lb, 0, none⟩ = some (.iface 38 (.pointer (some ⟨sb, 0, none⟩))) := (hL.on HKW2.out).src
        have x0 := k2.cell v0 id
        have x1 := k2.cell v1 id
        have lad : ad < w2.heap.size := cell_lt x0
        have lbl : lb < w2.heap.size := cell_lt hl2
        clear ho hA hb hS2 HO HI hneq HBO HOR v0 v1
        go_wp2_with fail
        go_cut [7, 8] (fun s5 s6 wx => ∃ b5, s5 = .pointer (some ⟨b5, 0, none⟩) ∧ s6 = .bool b ∧ VarAr w2 A b5 wx)
        case first =>
          go_region_with (go_at_call 20; refine (HCall.out _ (by first | exact (Kp.refl no _).drew | exact ((Kp.refl no _).alloc _).drew | exact (Kp.refl no _).drew.alloc _)).mono ?_; rintro e w5 ⟨rfl, kp5⟩; first | (have m8 := alloc4d kp5; obtain ⟨m0, m1, m2, m3, m4, m5, m6, m7⟩ := m8) | skip)
          all_goals go_wp2_with fail
          all_goals go_meet
          all_goals first
            | exact ⟨_, rfl, rfl, VarAr.after A kp5⟩
            | exact ⟨_, rfl, rfl, VarAr.before A kp5⟩
        case rest =>
          obtain ⟨b5, rfl, rfl, hv⟩ := hcut
          obtain ⟨w4, rfl⟩ : ∃ w4, w4 = wc := ⟨_, rfl⟩
          clear HCall
          go_upto_if 38 with fail
          go_cut [6] (fun s6 wx => s6 = .int .i64 ((areaOf S rn cn).b : Int) ∧ wx = w4)
          case first =>
            cases b with
            | true =>
              have hab : A.b = (areaOf S rn cn).b := HAB.out
              have z2 := hv.c2
              rw [hab] at z2
              clear hab
              go_wp2_with fail
              go_meet
              exact ⟨rfl, rfl⟩
            | false =>
              have hab : rn = (areaOf S rn cn).b := HAB.out
              have HQ : Hid (Value.int .i64 (rn : Int) = .int .i64 ((areaOf S rn cn).b : Int)) := by show _ = _; rw [← hab]
              clear hab
              go_wp2_with fail
              go_meet
              exact ⟨HQ.out, rfl⟩
          case rest =>
            obtain ⟨rfl, hww⟩ := hcut
            obtain rfl := hww.symm
            have hao := areaOf_ok hS hr hc
            have htb : rn ≤ (areaOf S rn cn).b := by have := hao.tb; rw [HAT.out] at this; exact this
            have hb64 := hao.b
            generalize (areaOf S rn cn).b = bt at *
            have HKW4 : Hid (Kp no w w4) := HKW2.out.trans hv.kp
            have y0 := hv.kp.cell x0 id
            have y1 := hv.kp.cell x1 id
            clear hao x0 x1 lad lbl hl2
            go_wp2_with fail
            refine (axes_at w4 lb sb S V (h.on HKW4.out) hS hV (hL.on HKW4.out)).mono ?_
            rintro e w6 ⟨rb, cb, rfl, k6, hA6, hL6⟩
            have j0 := k6.cell y0 hadl.out
            have j1 := k6.cell y1 hadl.out
            have h4 := HO4.out.on (k2.trans hv.kp)
            have m0 := k6.cell h4.c0 hblb.out
            have m1 := k6.cell h4.c1 hblb.out
            have m2 := k6.cell h4.c2 hblb.out
            have m3 := k6.cell h4.c3 hblb.out
            have m10 := k6.nocell h4.lt hblb.out h4.c10
            have mf : ∀ o, w6.frozen? ⟨ad + 1, o, none⟩ = false := fun o => (k6.frozen (p := ⟨ad + 1, o, none⟩) h4.lt hblb.out).trans (h4.free o)
            have mnew := h4.new
            have HKW6 : Hid (Kp (one lb) w w6) := (Kp.of_no HKW4.out).trans k6
            have HTL : Hid (Calls Try.prog 45 #[.pointer (some ⟨rb, 0, none⟩), .int .i64 (rn : Int), .int .i64 (bt : Int)] w6 fun e w' => e = .returned (.tuple #[.int .i64 (tlY (rowAx S V 0 0 0) rn bt), .bool (tlOk (rowAx S V 0 0 0) rn bt)]) ∧ Kp no w6 w') := by
              obtain ⟨q1, q2, q3, hrow⟩ := hA6.row
              exact textLine_any w6 rb _ hrow ((rowOk hS hV).ok _ _ _ _) rn bt htb hb64
            have HTR : Hid (tlOk (rowAx S V 0 0 0) rn bt = true → 0 ≤ tlY (rowAx S V 0 0 0) rn bt ∧ tlY (rowAx S V 0 0 0) rn bt < 24) := fun h => tlY_range ((rowOk hS hV).ok 0 0 0 (lnK 64 24 V.fr V.sr (rowSz S) 64)) h
            generalize tlOk (rowAx S V 0 0 0) rn bt = ok at *
            generalize tlY (rowAx S V 0 0 0) rn bt = ty at *
            clear y0 y1 h4 k2 k6 hv
            go_wp2_with fail
            refine HTL.out.mono ?_
            rintro e w7 ⟨rfl, k7⟩
            have n0 := k7.cell m0 id
            have n1 := k7.cell m1 id
            have n2 := k7.cell m2 id
            have n3 := k7.cell m3 id
            have l4 : ad + 1 < w6.heap.size := cell_lt m0
            have n10 := k7.nocell l4 id m10
            have nf : ∀ o, w7.frozen? ⟨ad + 1, o, none⟩ = false := fun o => (k7.frozen (p := ⟨ad + 1, o, none⟩) l4 id).trans (mf o)
            have HK7 : Hid (Kp (one lb) w w7) := HKW6.out.trans (Kp.of_no k7)
            have hL7 := hL6.on k7
            have hA7 := hA6.on k7
            have u0 := k7.cell j0 id
            have u1 := k7.cell j1 id
            clear m0 m1 m2 m3 m10 mf j0 j1 l4 HTL
            cases ok with
            | false =>
              have HN2 : Hid (reachR S V rn cn = (⟨0, 0, 0, 0⟩, false)) := by show _ = _; rw [HN.out]; exact if_neg (by decide)
              have f0 := nf 0
              have f1 := nf 1
              have f2 := nf 2
              have f3 := nf 3
              go_wp2_with fail
              obtain ⟨q0, q1, q2, q3⟩ := put4_at n0 n1 n2 n3 (.int .i64 0) (.int .i64 0) (.int .i64 0) (.int .i64 0)
              have hK := HK7.out.put4 (b := ad + 1) (fun h => absurd h (Nat.not_lt.2 mnew)) (.int .i64 0) (.int .i64 0) (.int .i64 0) (.int .i64 0)
              have hLL := hL7.put4 hblb.out n10 (.int .i64 0) (.int .i64 0) (.int .i64 0) (.int .i64 0)
              change bodyPost _ _ _ _ _ (put4 w7 (ad + 1) (.int .i64 0) (.int .i64 0) (.int .i64 0) (.int .i64 0))
              generalize put4 w7 (ad + 1) (.int .i64 0) (.int .i64 0) (.int .i64 0) (.int .i64 0) = w9 at hK hLL q0 q1 q2 q3 ⊢
              exact bodyPost_ret (v := .tuple #[.agg #[.int .i64 0, .int .i64 0, .int .i64 0, .int .i64 0], .bool false]) (by simp [results, Try.results26, go_sem, q0, q1, q2, q3]) rfl (ReachPost.no HN2.out hK hLL)
            | true =>
              obtain ⟨ht1, ht2⟩ := HTR.out rfl
              obtain ⟨y, rfl⟩ : ∃ y : Nat, ty = (y : Int) := ⟨ty.toNat, (Int.toNat_of_nonneg ht1).symm⟩
              rw [if_pos rfl, Int.toNat_natCast] at HN
              go_upto_region 12 with fail
              obtain ⟨w8, hw8⟩ : ∃ w8, w8 = w7.alloc (.cells Try.zeroCells53 53) := ⟨_, rfl⟩
              obtain ⟨b13, hb13⟩ : ∃ b13, b13 = w7.heap.size := ⟨_, rfl⟩
              have hl8 : LineAt w8 b13 0 blank := by subst hw8 hb13; exact line_new w7
              have k8 : Kp no w7 w8 := by rw [hw8]; exact (Kp.refl _ _).alloc _
              rw [← hb13, ← hw8]
              have hlt4 : ad + 1 < b13 := by rw [hb13]; exact cell_lt n0
              have hlta : ad < b13 := by omega
              have hltl : lb < b13 := by rw [hb13]; exact hL7.lt
              have hnew13 : Hid (¬ b13 < w7.heap.size) := by show ¬ _; omega
              clear hw8 hb13
              have hL8 := hL7.on k8
              have hA8 := hA7.on k8
              have hSh8 : SheetAt w8 sb S := (h.far HK7.out hL.farOne).on k8
              have hg0 : ∃ b, w8.cell? ⟨b13, 0, none⟩ = some (.bool b) := ⟨_, (hl8.at_ 0 (by omega)).c0⟩
              have HPA := paint_at hdr w8 b13 0 blank hl8 hg0 lb sb rb cb S V hSh8 hL8.src hA8 hS hV y 0 80 (by omega) (by omega) (by omega)
              have HPA' : Hid (Calls Try.prog 44 #[.pointer (some ⟨lb, 0, none⟩), .slice (some ⟨b13, 0, none⟩) 80 80, .int .i64 (y : Int), .pointer (some ⟨rb, 0, none⟩), .pointer (some ⟨cb, 0, none⟩), .int .i64 0, .int .i64 80] w8 fun e w' => e = .returned (.tuple #[]) ∧ LineAt w' b13 0 (paintOf S V y 0 80 blank) ∧ LinePut b13 0 w8 w') := HPA
              clear HPA
              generalize paintOf S V y 0 80 blank = P at *
              have o0 := k8.cell n0 id
              have o1 := k8.cell n1 id
              have o2 := k8.cell n2 id
              have o3 := k8.cell n3 id
              have o10 := k8.nocell (show ad + 1 < w7.heap.size from cell_lt n0) id n10
              have of_ : ∀ o, w8.frozen? ⟨ad + 1, o, none⟩ = false := fun o => (k8.frozen (p := ⟨ad + 1, o, none⟩) (show ad + 1 < w7.heap.size from cell_lt n0) id).trans (nf o)
              have s0 := k8.cell u0 id
              have s1 := k8.cell u1 id
              have HK8 : Hid (Kp (one lb) w w8) := HK7.out.trans (Kp.of_no k8)
              have HBW : Hid (¬ b13 < w.heap.size) := by show ¬ _; have := HK7.out.size; have := hnew13.out; omega
              clear n0 n1 n2 n3 n10 nf u0 u1 hA7 hL7 k8 k7
              go_wp2_with fail
              refine HPA'.out.mono ?_
              rintro e w9 ⟨rfl, hl9, hp9⟩
              have hB8 : Boo (one b13) w8 := fun b hb => by subst hb; exact hg0
              have hL9 := hL8.boo hp9.kp hB8
              have nb4 : ad + 1 ≠ b13 := by omega
              have nba : ad ≠ b13 := by omega
              have p0 := hp9.kp.cell o0 nb4
              have p1 := hp9.kp.cell o1 nb4
              have p2 := hp9.kp.cell o2 nb4
              have p3 := hp9.kp.cell o3 nb4
              have p10 := hp9.kp.nocell (show ad + 1 < w8.heap.size from cell_lt o0) nb4 o10
              have pf : ∀ o, w9.frozen? ⟨ad + 1, o, none⟩ = false := fun o => (hp9.kp.frozen (p := ⟨ad + 1, o, none⟩) (show ad + 1 < w8.heap.size from cell_lt o0) nb4).trans (of_ o)
              have t0 := hp9.kp.cell s0 nba
              have t1 := hp9.kp.cell s1 nba
              have HK9 : Hid (Kp (one lb) w w9) := by
                have e1 := HK8.out
                have e2 := hp9.kp
                exact ⟨e2.os.trans e1.os, e2.tape.trans e1.tape, e2.output.trans e1.output, Nat.le_trans e1.size e2.size, fun j hj hx => (e2.block j (Nat.lt_of_lt_of_le hj e1.size) (fun e => HBW.out (by have e' : j = b13 := e; omega))).trans (e1.block j hj hx)⟩
              obtain ⟨w10, hw10⟩ : ∃ w10, w10 = w9.alloc (.cells #[.int .i64 (y : Int), .int .i64 0, .int .i64 ((y : Int) + 1), .int .i64 0] 50) := ⟨_, rfl⟩
              obtain ⟨b14, hb14⟩ : ∃ b14, b14 = w9.heap.size := ⟨_, rfl⟩
              have hBx : Box4n w9 w10 b14 (.int .i64 (y : Int)) (.int .i64 ((0 : Nat) : Int)) (.int .i64 ((y : Int) + 1)) (.int .i64 ((0 : Nat) : Int)) := by
                subst hw10 hb14
                exact Box4n.made (Kp.refl _ _) _ _ _ _ _
              have nb14 : ad + 1 ≠ b14 := by rw [hb14]; have hh : ad + 1 < w9.heap.size := cell_lt p0; omega
              have nba14 : ad ≠ b14 := by rw [hb14]; have hh : ad < w9.heap.size := cell_lt t0; omega
              have nl14 : b13 ≠ b14 := by rw [hb14]; have := hl9.lt; omega
              have nlb14 : b14 ≠ lb := by rw [hb14]; have := hL9.lt; omega
              clear o0 o1 o2 o3 o10 of_ s0 s1 hL8 hA8 hSh8 hg0 hB8 HPA' hl8 HK8
              go_upto_region 14 with fail
              rw [← hb14, ← hw10]
              clear hw10 hb14
              go_wp2_with fail
              go_loopw [67] (fun xv wr => ∃ x : Nat, x ≤ 80 ∧ xv = .int .i64 (x : Int) ∧ Box4n w9 wr b14 (.int .i64 (y : Int)) (.int .i64 ((scanK P rn cn x).1 : Int)) (.int .i64 ((y : Int) + 1)) (.int .i64 ((scanK P rn cn x).2 : Int))) (fun xv _ => 80 - (intOf xv).toNat)
              case atStart => exact ⟨0, by omega, rfl, hBx⟩
              case round =>
                clear hBx
                obtain ⟨x, hx80, rfl, hB⟩ := hrel
                have HSC : Hid (scanK P rn cn (x + 1) = if (P x).drawn = true ∧ (P x).fR = rn ∧ (P x).fC = cn then (if (scanK P rn cn x).2 = 0 then x else (scanK P rn cn x).1, x + 1) else scanK P rn cn x) := rfl
                have HXB : Hid ((scanK P rn cn x).2 ≤ x) := scan_le P rn cn x
                generalize hsc : scanK P rn cn x = sc at *
                obtain ⟨sa, sx⟩ := sc
                have HSX : Hid (scanK P rn cn x = (sa, sx)) := hsc
                clear hsc
                have hlR := hl9.on hB.box.kp
                have g0 := hB.box.kp.cell t0 id
                have g1 := hB.box.kp.cell t1 id
                by_cases hlt : x < 80
                · have hsp := hlR.at_ x hlt
                  have q3 := hsp.c3
                  have q4 := hsp.c4
                  have q5 := hsp.c5
                  rw [Nat.zero_add] at q3 q4 q5
                  have i80 : (x : Int) < 80 := by omega
                  have b1 := hB.box.c1
                  have b3 := hB.box.c3
                  have f1 := hB.box.free 1
                  have f3 := hB.box.free 3
                  have d8 : ∀ (bb : Bool), (P x).drawn = bb → True := fun _ _ => trivial
                  clear d8
                  by_cases hd : (P x).drawn = true
                  · rw [hd] at q3
                    by_cases he : (P x).fR = rn ∧ (P x).fC = cn
                    · have HS2 : Hid (scanK P rn cn (x + 1) = (if sx = 0 then x else sa, x + 1)) := by show _ = _; rw [HSC.out, if_pos ⟨hd, he.1, he.2⟩]
                      have heq : ∀ W : World, (binOp .eql 31 (.agg #[.int .i64 ((P x).fR : Int), .int .i64 ((P x).fC : Int)]) (.agg #[.int .i64 (rn : Int), .int .i64 (cn : Int)])).run Try.prog W = .ok (.bool true) W := fun W => by rw [eql31, he.1, he.2]; simp
                      clear hd he
                      generalize (P x).fR = pfr at *
                      generalize (P x).fC = pfc at *
                      go_wp2_with fail
                      go_quiet (fail)
                      have hBq := hB.on ((Kp.refl no wr).drewN nq)
                      generalize wr.drewN nq = wq at hBq ⊢
                      have b1 := hBq.box.c1
                      have b3 := hBq.box.c3
                      have f1 := hBq.box.free 1
                      have f3 := hBq.box.free 3
                      by_cases hz : sx = 0
                      · subst hz
                        rw [if_pos rfl] at HS2
                        have e1 := (hBq.set1 (.int .i64 (x : Int))).set3 (.int .i64 ((x : Int) + 1))
                        have d3 := (hBq.set1 (.int .i64 (x : Int))).box.c3
                        have d3f := (hBq.set1 (.int .i64 (x : Int))).box.free 3
                        go_wp2_with fail
                        refine ⟨⟨x + 1, by omega, by go_num, by rw [HS2.out]; exact e1⟩, by simp [intOf]; omega⟩
                      · have hz2 : ((sx : Int) == 0) = false := by simp [hz]
                        rw [if_neg hz] at HS2
                        have e1 := hBq.set3 (.int .i64 ((x : Int) + 1))
                        go_wp2_with fail
                        refine ⟨⟨x + 1, by omega, by go_num, by rw [HS2.out]; exact e1⟩, by simp [intOf]; omega⟩
                    · have HS2 : Hid (scanK P rn cn (x + 1) = (sa, sx)) := by show _ = _; rw [HSC.out, if_neg (fun h => he ⟨h.2.1, h.2.2⟩)]
                      have heb : (((P x).fR : Int) == (rn : Int) && ((P x).fC : Int) == (cn : Int)) = false := by
                        cases hq : (((P x).fR : Int) == (rn : Int) && ((P x).fC : Int) == (cn : Int)) with
                        | false => rfl
                        | true =>
                          simp only [Bool.and_eq_true, beq_iff_eq] at hq
                          exact absurd ⟨by omega, by omega⟩ he
                      have heq : ∀ W : World, (binOp .eql 31 (.agg #[.int .i64 ((P x).fR : Int), .int .i64 ((P x).fC : Int)]) (.agg #[.int .i64 (rn : Int), .int .i64 (cn : Int)])).run Try.prog W = .ok (.bool false) W := fun W => by rw [eql31, heb]
                      clear hd he heb
                      generalize (P x).fR = pfr at *
                      generalize (P x).fC = pfc at *
                      go_wp2_with fail
                      go_quiet (fail)
                      have hBq := hB.on ((Kp.refl no wr).drewN nq)
                      generalize wr.drewN nq = wq at hBq ⊢
                      go_wp2_with fail
                      refine ⟨⟨x + 1, by omega, by go_num, by rw [HS2.out]; exact hBq⟩, by simp [intOf]; omega⟩
                  · have hd' : (P x).drawn = false := by cases hq : (P x).drawn with
                      | false => rfl
                      | true => exact absurd hq hd
                    have HS2 : Hid (scanK P rn cn (x + 1) = (sa, sx)) := by show _ = _; rw [HSC.out, if_neg (fun h => hd h.1)]
                    rw [hd'] at q3
                    clear hd hd'
                    go_wp2_with fail
                    go_quiet (fail)
                    have hBq := hB.on ((Kp.refl no wr).drewN nq)
                    generalize wr.drewN nq = wq at hBq ⊢
                    go_wp2_with fail
                    refine ⟨⟨x + 1, by omega, by go_num, by rw [HS2.out]; exact hBq⟩, by simp [intOf]; omega⟩
                · have hx' : x = 80 := by omega
                  have HN2 : Hid (reachR S V rn cn = (⟨y, sa, (y : Int) + 1, sx⟩, decide (0 < sx))) := by
                    show _ = _
                    rw [HN.out, ← hx', HSX.out]
                  clear hx'
                  have b0 := hB.box.c0
                  have b1 := hB.box.c1
                  have b2 := hB.box.c2
                  have b3 := hB.box.c3
                  have kR := hB.box.kp
                  have p0' := kR.cell p0 id
                  have p1' := kR.cell p1 id
                  have p2' := kR.cell p2 id
                  have p3' := kR.cell p3 id
                  have lt4 : ad + 1 < w9.heap.size := cell_lt p0
                  have p10' := kR.nocell lt4 id p10
                  have pf' : ∀ o, wr.frozen? ⟨ad + 1, o, none⟩ = false := fun o => (kR.frozen (p := ⟨ad + 1, o, none⟩) lt4 id).trans (pf o)
                  have f0 := pf' 0
                  have f1 := pf' 1
                  have f2 := pf' 2
                  have f3 := pf' 3
                  have HKR : Hid (Kp (one lb) w wr) := HK9.out.trans (Kp.of_no kR)
                  have hLR := hL9.on kR
                  clear p0 p1 p2 p3 pf p10 t0 t1 g0 g1 hlR HSC HXB
                  go_wp2_with fail
                  go_region
                  all_goals go_wp2_with fail
                  obtain ⟨q0, q1, q2, q3⟩ := put4_at p0' p1' p2' p3' (.int .i64 (y : Int)) (.int .i64 (sa : Int)) (.int .i64 ((y : Int) + 1)) (.int .i64 (sx : Int))
                  have hK := HKR.out.put4 (b := ad + 1) (fun h => absurd h (Nat.not_lt.2 mnew)) (.int .i64 (y : Int)) (.int .i64 (sa : Int)) (.int .i64 ((y : Int) + 1)) (.int .i64 (sx : Int))
                  have hLL := hLR.put4 hblb.out p10' (.int .i64 (y : Int)) (.int .i64 (sa : Int)) (.int .i64 ((y : Int) + 1)) (.int .i64 (sx : Int))
                  change bodyPost _ _ _ _ _ (put4 wr (ad + 1) (.int .i64 (y : Int)) (.int .i64 (sa : Int)) (.int .i64 ((y : Int) + 1)) (.int .i64 (sx : Int))).drew
                  generalize put4 wr (ad + 1) (.int .i64 (y : Int)) (.int .i64 (sa : Int)) (.int .i64 ((y : Int) + 1)) (.int .i64 (sx : Int)) = w9' at hK hLL q0 q1 q2 q3 ⊢
                  exact bodyPost_ret (v := .tuple #[.agg #[.int .i64 (y : Int), .int .i64 (sa : Int), .int .i64 ((y : Int) + 1), .int .i64 (sx : Int)], .bool (decide (0 < sx))]) (by simp [results, Try.results26, go_sem, q0, q1, q2, q3]) rfl ⟨by rw [HN2.out], hK.drew, hLL.on (Kp.refl _ _).drew⟩
end Go.Proofs.Qxb6500653a
