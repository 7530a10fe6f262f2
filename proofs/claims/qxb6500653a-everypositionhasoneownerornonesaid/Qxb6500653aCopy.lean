/-
  A frame copied whole; the player while a frame is repainted.
-/
import Derived.Test.Qxb6500653aRepLaw
import Derived.Deep.MidRow
namespace Go.Proofs.Qxb6500653a
open Go.RowKit

/-- a position's cells -/
def Spot.val (s : Spot) : Nat → Value
  | 0 => .bool s.own
  | 1 => .int .i64 (s.oR : Int)
  | 2 => .int .i64 (s.oC : Int)
  | 3 => .bool s.drawn
  | 4 => .int .i64 (s.fR : Int)
  | 5 => .int .i64 (s.fC : Int)
  | _ => .int .u8 (s.ch : Int)
theorem SpotAt.get {w : World} {g o : Nat} {s : Spot} (h : SpotAt w g o s) : ∀ j, j < 7 → w.cell? ⟨g, o + j, none⟩ = some (s.val j)
  | 0, _ => h.c0
  | 1, _ => h.c1
  | 2, _ => h.c2
  | 3, _ => h.c3
  | 4, _ => h.c4
  | 5, _ => h.c5
  | 6, _ => h.c6
theorem SpotAt.of {w : World} {g o : Nat} {s : Spot} (h : ∀ j, j < 7 → w.cell? ⟨g, o + j, none⟩ = some (s.val j)) : SpotAt w g o s :=
  ⟨by have := h 0 (by omega); rw [Nat.add_zero] at this; exact this, h 1 (by omega), h 2 (by omega), h 3 (by omega), h 4 (by omega), h 5 (by omega), h 6 (by omega)⟩
theorem Spot.val_one (s : Spot) (j : Nat) : (s.val j).oneCell' = true := by
  unfold Spot.val
  split <;> rfl
/-- a frame's cells -/
def fcells (F : Nat → Nat → Spot) : List Value := (List.range 13440).map (fun o => (F (o / 560) (o % 560 / 7)).val (o % 7))
theorem fcells_len (F : Nat → Nat → Spot) : (fcells F).length = 13440 := by unfold fcells; simp
theorem fcells_get (F : Nat → Nat → Spot) {y x j : Nat} (hy : y < 24) (hx : x < 80) (hj : j < 7) : (fcells F)[y * 560 + x * 7 + j]? = some ((F y x).val j) := by
  unfold fcells
  have e1 : (y * 560 + x * 7 + j) / 560 = y := by omega
  have e2 : (y * 560 + x * 7 + j) % 560 / 7 = x := by omega
  have e3 : (y * 560 + x * 7 + j) % 7 = j := by omega
  rw [List.getElem?_map, List.getElem?_range (by omega)]
  simp only [Option.map_some, e1, e2, e3]
theorem fcells_one (F : Nat → Nat → Spot) : ∀ v ∈ fcells F, v.oneCell' = true := by
  intro v hv
  unfold fcells at hv
  obtain ⟨o, _, rfl⟩ := List.mem_map.1 hv
  exact Spot.val_one _ _
theorem FrameAt.range {w : World} {fb : Nat} {F : Nat → Nat → Spot} (h : FrameAt w fb F) : w.rangeAt fb 0 (fcells F) := by
  intro j v hv
  have hl : j < 13440 := by
    have := (List.getElem?_eq_some_iff.1 hv).1
    rw [fcells_len] at this
    exact this
  obtain ⟨y, x, k, hy, hx, hk, rfl⟩ : ∃ y x k, y < 24 ∧ x < 80 ∧ k < 7 ∧ j = y * 560 + x * 7 + k := ⟨j / 560, j % 560 / 7, j % 7, by omega, by omega, by omega, by omega⟩
  rw [fcells_get F hy hx hk] at hv
  rw [Nat.zero_add, ← hv]
  exact ((h.line y hy).at_ x hx).get k hk
theorem FrameAt.of_range {w : World} {fb : Nat} {F : Nat → Nat → Spot} (h : w.rangeAt fb 0 (fcells F)) (hf : ∀ o, w.frozen? ⟨fb, o, none⟩ = false) : FrameAt w fb F := by
  refine ⟨fun y hy => ⟨fun x hx => SpotAt.of fun j hj => ?_, hf⟩⟩
  have := h (y * 560 + x * 7 + j) _ (fcells_get F hy hx hj)
  rw [Nat.zero_add] at this
  exact this
theorem FrameAt.there {w : World} {fb : Nat} {F : Nat → Nat → Spot} (h : FrameAt w fb F) : w.there fb 0 13440 := fun j hj => by
  refine ⟨h.range.isSome j (by rw [fcells_len]; exact hj), (h.line 0 (by omega)).free _⟩
/-- the copy -/
theorem FrameAt.copied {w : World} (F : Nat → Nat → Spot) : FrameAt ((w.alloc (.cells Try.zeroCells61 61)).setCells w.heap.size 0 (fcells F)) w.heap.size F ∧ Kp no w ((w.alloc (.cells Try.zeroCells61 61)).setCells w.heap.size 0 (fcells F)) := by
  have h0 := frame_new w
  have ht : (w.alloc (.cells Try.zeroCells61 61)).there w.heap.size 0 (fcells F).length := by rw [fcells_len]; exact h0.there
  have k0 : Kp no w (w.alloc (.cells Try.zeroCells61 61)) := (Kp.refl no w).alloc _
  have k1 : Kp (one w.heap.size) (w.alloc (.cells Try.zeroCells61 61)) ((w.alloc (.cells Try.zeroCells61 61)).setCells w.heap.size 0 (fcells F)) := Kp.setCells (X := one w.heap.size) rfl _ _ _ (Kp.refl _ _)
  exact ⟨FrameAt.of_range (World.rangeAt_setCells_same _ _ _ _ ht) (fun o => by rw [World.frozen?_setCells]; exact (h0.line 0 (by omega)).free o), k0.trans2 k1 (fun j hj e => by have e' : j = w.heap.size := e; omega)⟩
theorem info61 : (Try.prog.info? 61).map (·.size) = some 13440 := by kernel_rfl

theorem GameAt.painted {w w' : World} {qb sb lb fb : Nat} {S : Sh} {V : Vw} {F : Nat → Nat → Spot} (h : GameAt w qb sb lb S V) (hF : FrameAt w fb F) (k : Kp (fun k => k = lb ∨ k = fb) w w') (hL : LayAt w' lb sb S V) : GameAt w' qb sb lb S V := by
  obtain ⟨n1, n2, n3, n4, n5⟩ := h.lb_ne
  obtain ⟨v, hv⟩ := hF.boo
  have hfar : Far (fun k => k = lb ∨ k = fb) w := by
    rintro b (rfl | rfl)
    · exact ⟨_, h.lay.src, fun _ _ e => (by cases e), fun _ _ _ e => (by cases e)⟩
    · exact ⟨_, hv, fun _ _ e => (by cases e), fun _ _ _ e => (by cases e)⟩
  have hq : ¬ (fun k => k = lb ∨ k = fb) qb := by
    rintro (e | e)
    · exact n1 e
    · have := h.q0
      rw [e, hv] at this
      cases this
  have hp : ¬ (fun k => k = lb ∨ k = fb) S.pb := by
    rintro (e | e)
    · exact n4 e
    · obtain ⟨c, hc⟩ := h.sh.map
      rw [e] at hc
      simp [World.cell?, hc] at hv
  exact ⟨h.sh.far k hfar, h.ok, hL, h.vok, h.born.kp k hp _ rfl rfl, k.cell h.q0 hq, k.cell h.q1 hq⟩
end Go.Proofs.Qxb6500653a
