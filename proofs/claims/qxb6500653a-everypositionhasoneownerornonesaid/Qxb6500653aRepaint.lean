/-
  Repaint (25).
-/
import Derived.Test.Qxb6500653aPaint
import Derived.Test.Qxb6500653aPlayB
namespace Go.Proofs.Qxb6500653a
open Go.RowKit

/-- a frame: 24 lines in one block -/
structure FrameAt (w : World) (fb : Nat) (F : Nat → Nat → Spot) : Prop where
  line : ∀ y, y < 24 → LineAt w fb (y * 560) (F y)
theorem FrameAt.lt {w : World} {fb : Nat} {F : Nat → Nat → Spot} (h : FrameAt w fb F) : fb < w.heap.size := (h.line 0 (by omega)).lt
theorem FrameAt.boo {w : World} {fb : Nat} {F : Nat → Nat → Spot} (h : FrameAt w fb F) : ∃ b, w.cell? ⟨fb, 0, none⟩ = some (.bool b) := ⟨_, ((h.line 0 (by omega)).at_ 0 (by omega)).c0⟩
theorem FrameAt.booOne {w : World} {fb : Nat} {F : Nat → Nat → Spot} (h : FrameAt w fb F) : Boo (one fb) w := fun b hb => by cases hb; exact h.boo
theorem FrameAt.kp {X : Nat → Prop} {w w' : World} {fb : Nat} {F : Nat → Nat → Spot} (h : FrameAt w fb F) (k : Kp X w w') (hx : ¬ X fb) : FrameAt w' fb F :=
  ⟨fun y hy => ⟨fun x hx' => ((h.line y hy).at_ x hx').same fun _ _ => World.cell?_of_block (w := w) (k.block fb h.lt hx), fun o => (k.frozen (p := ⟨fb, o, none⟩) h.lt hx).trans ((h.line y hy).free o)⟩⟩
theorem FrameAt.cong {w : World} {fb : Nat} {F F' : Nat → Nat → Spot} (h : FrameAt w fb F) (e : ∀ y, y < 24 → F y = F' y) : FrameAt w fb F' := ⟨fun y hy => by rw [← e y hy]; exact h.line y hy⟩
theorem FrameAt.put {w w' : World} {fb y : Nat} {F : Nat → Nat → Spot} {L : Nat → Spot} (h : FrameAt w fb F) (hl : LineAt w' fb (y * 560) L) (hp : LinePut fb (y * 560) w w') : FrameAt w' fb (fun k => if k = y then L else F k) := by
  refine ⟨fun k hk => ?_⟩
  by_cases e : k = y
  · subst e
    rw [if_pos rfl]
    exact hl
  · rw [if_neg e]
    refine ⟨fun x hx => ((h.line k hk).at_ x hx).same fun j hj => hp.out _ ?_, hl.free⟩
    rcases Nat.lt_or_ge k y with h' | h'
    · left; omega
    · right; omega

/-- the frame behind a repaint -/
noncomputable def repOf (S : Sh) (V : Vw) (y0 x0 y1 x1 : Int) (F : Nat → Nat → Spot) (y : Nat) : Nat → Spot :=
  if y0 ≤ (y : Int) ∧ (y : Int) < y1 ∧ max x0 0 < min x1 80 then paintOf S V y (max x0 0).toNat (min x1 80).toNat (F y) else F y

def RepPost (lb sb fb : Nat) (S : Sh) (V : Vw) (y0 x0 y1 x1 : Int) (F : Nat → Nat → Spot) (w : World) (e : Ending) (w' : World) : Prop :=
  e = .returned (.tuple #[]) ∧ Kp (fun k => k = lb ∨ k = fb) w w' ∧ LayAt w' lb sb S V ∧ FrameAt w' fb (repOf S V y0 x0 y1 x1 F)

set_option maxRecDepth 100000 in
set_option maxHeartbeats 4000000 in
theorem repaint_at (hdr : DrawRowOk) (w : World) (lb sb fb : Nat) (S : Sh) (V : Vw) (F : Nat → Nat → Spot) (h : SheetAt w sb S) (hS : S.Ok) (hL : LayAt w lb sb S V) (hV : V.Ok) (hF : FrameAt w fb F) (y0 x0 y1 x1 : Int) :
    Calls Try.prog 25 #[.pointer (some ⟨lb, 0, none⟩), .pointer (some ⟨fb, 0, none⟩), .agg #[.int .i64 y0, .int .i64 x0, .int .i64 y1, .int .i64 x1]] w (RepPost lb sb fb S V y0 x0 y1 x1 F w) := by
  obtain ⟨w1, hw1⟩ : ∃ w1, w1 = w.alloc (.cells #[.int .i64 y0, .int .i64 x0, .int .i64 y1, .int .i64 x1] 50) := ⟨_, rfl⟩
  obtain ⟨bx, hbx⟩ : ∃ bx, bx = w.heap.size := ⟨_, rfl⟩
  have HK1 : Hid (Kp no w w1) := by show Kp _ _ _; rw [hw1]; exact (Kp.refl no w).alloc _
  have HBX : Hid (Box4 w w1 bx (.int .i64 y0) (.int .i64 x0) (.int .i64 y1) (.int .i64 x1)) := by
    show Box4 _ _ _ _ _ _ _
    rw [hw1, hbx]
    exact ⟨(Kp.refl no w).alloc _, Nat.le_refl _, by simp, by simp, by simp, by simp, fun o => by simp⟩
  have HA : Hid (Calls Try.prog 37 #[.pointer (some ⟨lb, 0, none⟩)] w1 (AxesPost lb sb S V w1)) := axes_at w1 lb sb S V (h.on HK1.out) hS hV (hL.on HK1.out)
  have HFB : Hid (fb ≠ lb) := fun e => by
    obtain ⟨v, hv⟩ := hF.boo
    rw [e, hL.src] at hv
    cases hv
  have HBL : Hid (bx ≠ lb ∧ bx ≠ fb) := by
    have h1 := hL.lt
    have h2 := hF.lt
    exact ⟨by omega, by omega⟩
  go_enter Try.func25, Try.ntmps25
  go_upto_region 1 with fail
  rw [← hw1, ← hbx]
  clear hw1 hbx
  go_wp2_with fail
  refine HA.out.mono ?_
  rintro e w2 ⟨rb, cb, rfl, k2, hA2, hL2⟩
  have HK2 : Hid (Kp (one lb) w1 w2) := k2
  have HA2 : Hid (AxesAt w2 rb cb S V) := hA2
  have HL2 : Hid (LayAt w2 lb sb S V) := hL2
  have HS2 : Hid (SheetAt w2 sb S) := (h.on HK1.out).far k2 (hL.on HK1.out).farOne
  have HF2 : Hid (FrameAt w2 fb F) := (hF.kp HK1.out id).kp k2 HFB.out
  have c0 := k2.cell HBX.out.c0 HBL.out.1
  have c1 := k2.cell HBX.out.c1 HBL.out.1
  have c2 := k2.cell HBX.out.c2 HBL.out.1
  have c3 := k2.cell HBX.out.c3 HBL.out.1
  clear k2 hA2 hL2 HA
  obtain ⟨X0, hX0⟩ : ∃ X : Nat, max x0 0 = (X : Int) := ⟨(max x0 0).toNat, by omega⟩
  obtain ⟨X1, hX1⟩ : ∃ X, min x1 80 = X := ⟨_, rfl⟩
  obtain ⟨Y0, hY0⟩ : ∃ Y : Nat, max y0 0 = (Y : Int) := ⟨(max y0 0).toNat, by omega⟩
  obtain ⟨Y1, hY1⟩ : ∃ X, min y1 24 = X := ⟨_, rfl⟩
  have HX1 : Hid (X1 ≤ 80) := by show _ ≤ _; omega
  have HY1 : Hid (Y1 ≤ 24) := by show _ ≤ _; omega
  obtain ⟨G, hG⟩ : ∃ G : Nat → Nat → Nat → Spot, G = fun y k => if Y0 ≤ k ∧ k < y ∧ (k : Int) < Y1 ∧ (X0 : Int) < X1 then paintOf S V k X0 X1.toNat (F k) else F k := ⟨_, rfl⟩
  have HG0 : Hid (G Y0 = F) := by
    show _ = _
    rw [hG]
    funext k
    exact if_neg (by omega)
  have HGE : Hid (∀ y : Nat, (Y1 ≤ (y : Int) ∨ X1 ≤ (X0 : Int)) → ∀ k, k < 24 → G y k = repOf S V y0 x0 y1 x1 F k) := fun y hy k hk => by
    rw [hG]
    unfold repOf
    rw [hX0, hX1, Int.toNat_natCast]
    by_cases hc : Y0 ≤ k ∧ k < y ∧ (k : Int) < Y1 ∧ (X0 : Int) < X1
    · show (if _ then _ else _) = _
      rw [if_pos hc, if_pos ⟨by omega, by omega, by omega⟩]
    · show (if _ then _ else _) = _
      rw [if_neg hc, if_neg (by omega)]
  have HGS : Hid (∀ y : Nat, Y0 ≤ y → (y : Int) < Y1 → (X0 : Int) < X1 → G y y = F y ∧ ∀ k, (if k = y then paintOf S V y X0 X1.toNat (F y) else G y k) = G (y + 1) k) := fun y h1 h2 h3 => by
    rw [hG]
    refine ⟨if_neg (by omega), fun k => ?_⟩
    show (if k = y then _ else (if _ then _ else _)) = (if _ then _ else _)
    by_cases e : k = y
    · subst e
      rw [if_pos rfl, if_pos ⟨h1, by omega, h2, h3⟩]
    · rw [if_neg e]
      by_cases hc : Y0 ≤ k ∧ k < y ∧ (k : Int) < Y1 ∧ (X0 : Int) < X1
      · rw [if_pos hc, if_pos ⟨hc.1, by omega, hc.2.2.1, hc.2.2.2⟩]
      · rw [if_neg hc, if_neg (by omega)]
  have HDR : Hid DrawRowOk := hdr
  have HSO : Hid (S.Ok ∧ V.Ok) := ⟨hS, hV⟩
  have HW : Hid (SheetAt w sb S ∧ LayAt w lb sb S V ∧ FrameAt w fb F) := ⟨h, hL, hF⟩
  clear hG hdr hS hV h hL hF
  go_wp2_with fail
  go_region
  all_goals go_wp2_with fail
  go_loopw [10] (fun yv wr => ∃ y : Nat, yv = .int .i64 (y : Int) ∧ Y0 ≤ y ∧ Kp (one fb) w2 wr ∧ Hid (FrameAt wr fb (G y))) (fun yv _ => (Y1 - intOf yv).toNat)
  case atStart =>
    exact ⟨Y0, rfl, Nat.le_refl _, (Kp.refl _ _).drew, by show FrameAt _ _ _; rw [HG0.out]; exact HF2.out.kp (Kp.refl no w2).drew id⟩
  case round =>
    obtain ⟨y, rfl, hy0, kr, HFR⟩ := hrel
    have e2 := kr.cell c2 HBL.out.2
    have HSR : Hid (SheetAt wr sb S ∧ AxesAt wr rb cb S V ∧ LayAt wr lb sb S V) := ⟨HS2.out.far kr HF2.out.booOne.far, HA2.out.far kr HF2.out.booOne.far, HL2.out.boo kr HF2.out.booOne⟩
    have HKE : Hid (Kp (fun k => k = lb ∨ k = fb) w wr) := ((Kp.of_no HK1.out).trans (HK2.out.mono fun _ _ e => Or.inl e)).trans (kr.mono fun _ _ e => Or.inr e)
    by_cases hc1 : (y : Int) < Y1
    · by_cases hc2 : (X0 : Int) < X1
      · obtain ⟨X1n, rfl⟩ : ∃ n : Nat, X1 = (n : Int) := ⟨X1.toNat, by omega⟩
        have hy24 : y < 24 := by have := HY1.out; omega
        have i24 : (y : Int) < 24 := by omega
        have hx80 : X1n ≤ 80 := by have := HX1.out; omega
        have hP := paint_at HDR.out wr fb (y * 560) (G y y) (HFR.out.line y hy24) HFR.out.boo lb sb rb cb S V HSR.out.1 HSR.out.2.2.src HSR.out.2.1 HSO.out.1 HSO.out.2 y X0 X1n hy24 (by omega) hx80
        have HP : Hid (Calls Try.prog 44 #[.pointer (some ⟨lb, 0, none⟩), .slice (some ⟨fb, y * 560, none⟩) 80 80, .int .i64 (y : Int), .pointer (some ⟨rb, 0, none⟩), .pointer (some ⟨cb, 0, none⟩), .int .i64 (X0 : Int), .int .i64 (X1n : Int)] wr
          fun e w' => e = .returned (.tuple #[]) ∧ LineAt w' fb (y * 560) (paintOf S V y X0 X1n (G y y)) ∧ LinePut fb (y * 560) wr w') := hP
        clear hP
        go_wp2_with fail
        refine HP.out.mono ?_
        rintro e w9 ⟨rfl, hl9, hp9⟩
        have HF9 : Hid (FrameAt w9 fb (G (y + 1))) := by
          obtain ⟨g1, g2⟩ := HGS.out y hy0 hc1 hc2
          rw [g1] at hl9
          refine (HFR.out.put hl9 hp9).cong fun k _ => ?_
          have := g2 k
          rw [Int.toNat_natCast] at this
          exact this
        have HK9 : Hid (Kp (one fb) w2 w9) := kr.trans hp9.kp
        clear hl9 hp9
        go_wp2_with fail
        refine ⟨⟨y + 1, by go_num, by omega, HK9.out, HF9⟩, by simp [intOf]; omega⟩
      · have HEND : Hid (FrameAt wr fb (repOf S V y0 x0 y1 x1 F)) := HFR.out.cong (HGE.out y (Or.inr (by omega)))
        go_wp2_with fail
        go_end0
        exact ⟨rfl, HKE.out, HSR.out.2.2, HEND.out⟩
    · have HEND : Hid (FrameAt wr fb (repOf S V y0 x0 y1 x1 F)) := HFR.out.cong (HGE.out y (Or.inl (by omega)))
      go_wp2_with fail
      go_end0
      exact ⟨rfl, HKE.out, HSR.out.2.2, HEND.out⟩
end Go.Proofs.Qxb6500653a
