/-
  Frame (11).
-/
import Derived.Test.Qxb6500653aRepaint
import Derived.Test.Qxb6500653aReach
namespace Go.Proofs.Qxb6500653a
open Go.RowKit

def zb : Value → Bool
  | .bool b => !b
  | _ => false
def zi : Value → Bool
  | .int .i64 i => i == 0
  | _ => false
def zu : Value → Bool
  | .int .u8 i => i == 0
  | _ => false
/-- n positions, all nought -/
def chk : Nat → List Value → Bool
  | 0, _ => true
  | n + 1, a :: b :: c :: d :: e :: f :: g :: t => zb a && zi b && zi c && zb d && zi e && zi f && zu g && chk n t
  | _ + 1, _ => false
theorem zb_eq {v : Value} (h : zb v = true) : v = .bool false := by
  unfold zb at h
  split at h
  · rename_i b
    cases b
    · rfl
    · cases h
  · cases h
theorem zi_eq {v : Value} (h : zi v = true) : v = .int .i64 0 := by
  unfold zi at h
  split at h
  · rw [eq_of_beq h]
  · cases h
theorem zu_eq {v : Value} (h : zu v = true) : v = .int .u8 0 := by
  unfold zu at h
  split at h
  · rw [eq_of_beq h]
  · cases h
theorem chk_at : ∀ (n : Nat) (l : List Value), chk n l = true → ∀ x j, x < n → j < 7 → l[x * 7 + j]? = [Value.bool false, .int .i64 0, .int .i64 0, .bool false, .int .i64 0, .int .i64 0, .int .u8 0][j]?
  | 0, _, _, x, j, hx, _ => by omega
  | n + 1, a :: b :: c :: d :: e :: f :: g :: t, h, x, j, hx, hj => by
    simp only [chk, Bool.and_eq_true] at h
    obtain ⟨⟨⟨⟨⟨⟨⟨h0, h1⟩, h2⟩, h3⟩, h4⟩, h5⟩, h6⟩, h7⟩ := h
    rcases Nat.eq_zero_or_pos x with h0' | h0'
    · subst h0'
      rw [Nat.zero_mul, Nat.zero_add, zb_eq h0, zi_eq h1, zi_eq h2, zb_eq h3, zi_eq h4, zi_eq h5, zu_eq h6]
      have : j = 0 ∨ j = 1 ∨ j = 2 ∨ j = 3 ∨ j = 4 ∨ j = 5 ∨ j = 6 := by omega
      rcases this with rfl | rfl | rfl | rfl | rfl | rfl | rfl <;> rfl
    · obtain ⟨y, rfl⟩ : ∃ y, x = y + 1 := ⟨x - 1, by omega⟩
      rw [← chk_at n t h7 y j (by omega) hj, show (y + 1) * 7 + j = (y * 7 + j) + 7 by omega]
      rfl
  | n + 1, [], h, _, _, _, _ => by simp [chk] at h
  | n + 1, [_], h, _, _, _, _ => by simp [chk] at h
  | n + 1, [_, _], h, _, _, _, _ => by simp [chk] at h
  | n + 1, [_, _, _], h, _, _, _, _ => by simp [chk] at h
  | n + 1, [_, _, _, _], h, _, _, _, _ => by simp [chk] at h
  | n + 1, [_, _, _, _, _], h, _, _, _, _ => by simp [chk] at h
  | n + 1, [_, _, _, _, _, _], h, _, _, _, _ => by simp [chk] at h
theorem zeroCells61 : chk 1920 Try.zeroCells61.toList = true := by kernel_rfl
theorem World.frozen?_alloc_cells (w : World) {cs : Array Value} {t : TypeId} (o : Nat) : (w.alloc (.cells cs t)).frozen? ⟨w.heap.size, o, none⟩ = false := by simp
theorem frame_newZ (Z : Array Value) (hZ : chk 1920 Z.toList = true) (w : World) : FrameAt (w.alloc (.cells Z 61)) w.heap.size (fun _ => blank) := by
  have g7 : ∀ y x, y < 24 → x < 80 → ∀ j, j < 7 → (w.alloc (.cells Z 61)).cell? ⟨w.heap.size, y * 560 + x * 7 + j, none⟩ = [Value.bool false, .int .i64 0, .int .i64 0, .bool false, .int .i64 0, .int .i64 0, .int .u8 0][j]? := fun y x hy hx j hj => by
    rw [World.cell?_alloc_new, ← Array.getElem?_toList, show y * 560 + x * 7 + j = (y * 80 + x) * 7 + j by omega]
    exact chk_at 1920 _ hZ (y * 80 + x) j (by omega) hj
  refine ⟨fun y hy => ⟨fun x hx => ?_, fun o => World.frozen?_alloc_cells w o⟩⟩
  have h0 := g7 y x hy hx 0 (by omega)
  rw [Nat.add_zero] at h0
  exact ⟨h0, g7 y x hy hx 1 (by omega), g7 y x hy hx 2 (by omega), g7 y x hy hx 3 (by omega), g7 y x hy hx 4 (by omega), g7 y x hy hx 5 (by omega), g7 y x hy hx 6 (by omega)⟩
theorem frame_new (w : World) : FrameAt (w.alloc (.cells Try.zeroCells61 61)) w.heap.size (fun _ => blank) := frame_newZ _ zeroCells61 w

/-- the whole frame -/
noncomputable def frameOf (S : Sh) (V : Vw) (y : Nat) : Nat → Spot := paintOf S V y 0 80 blank
def FramePost (lb sb : Nat) (S : Sh) (V : Vw) (w : World) (e : Ending) (w' : World) : Prop :=
  ∃ fb, e = .returned (.pointer (some ⟨fb, 0, none⟩)) ∧ Kp (one lb) w w' ∧ LayAt w' lb sb S V ∧ FrameAt w' fb (frameOf S V) ∧ w.heap.size ≤ fb

set_option maxRecDepth 100000 in
set_option maxHeartbeats 4000000 in
theorem frame_at (hdr : DrawRowOk) (w : World) (lb sb : Nat) (S : Sh) (V : Vw) (h : SheetAt w sb S) (hS : S.Ok) (hL : LayAt w lb sb S V) (hV : V.Ok) :
    Calls Try.prog 11 #[.pointer (some ⟨lb, 0, none⟩)] w (FramePost lb sb S V w) := by
  obtain ⟨w1, hw1⟩ : ∃ w1, w1 = w.alloc (.cells Try.zeroCells61 61) := ⟨_, rfl⟩
  obtain ⟨fb, hfb⟩ : ∃ fb, fb = w.heap.size := ⟨_, rfl⟩
  have HN : Hid (w.heap.size ≤ fb) := by show _ ≤ _; omega
  have HF1 : Hid (FrameAt w1 fb (fun _ => blank)) := by show FrameAt _ _ _; rw [hw1, hfb]; exact frame_new w
  have HK1 : Hid (Kp no w w1) := by show Kp _ _ _; rw [hw1]; exact (Kp.refl no w).alloc _
  have HR : Hid (Calls Try.prog 25 #[.pointer (some ⟨lb, 0, none⟩), .pointer (some ⟨fb, 0, none⟩), .agg #[.int .i64 0, .int .i64 0, .int .i64 24, .int .i64 80]] w1 (RepPost lb sb fb S V 0 0 24 80 (fun _ => blank) w1)) := repaint_at hdr w1 lb sb fb S V _ (h.on HK1.out) hS (hL.on HK1.out) hV HF1.out 0 0 24 80
  go_enter Try.func11, Try.ntmps11
  go_upto_region 2 with fail
  rw [← hw1, ← hfb]
  clear hw1 hfb
  go_wp2_with fail
  refine HR.out.mono ?_
  rintro e w2 ⟨rfl, k2, hL2, hF2⟩
  have HF2 : Hid (FrameAt w2 fb (frameOf S V)) := hF2.cong fun y hy => by
    unfold repOf frameOf
    rw [if_pos ⟨by omega, by omega, by omega⟩]
    rfl
  have HK2 : Hid (Kp (one lb) w w2) := (Kp.of_no HK1.out).trans2 k2 (fun j hj e => by
    rcases e with e | e
    · exact e
    · have := HN.out; omega)
  clear k2 hF2
  go_wp2_with fail
  go_ret
  exact ⟨fb, rfl, HK2.out, hL2, HF2.out, HN.out⟩
end Go.Proofs.Qxb6500653a
