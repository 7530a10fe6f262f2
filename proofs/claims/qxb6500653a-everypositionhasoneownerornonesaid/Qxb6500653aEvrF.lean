/-
  EveryPosition (3): 'f, v := p.l.Frame(), p.l.View()': two calls and a variable in a region that draws its order.
-/
import Derived.Test.Qxb6500653aEvrQ
namespace Go.Proofs.Qxb6500653a
open Go.RowKit

def findR (n : Nat) : Code → Option Code
  | .region id ops d => if id = n then some (.region id ops d) else none
  | .seq a b => match findR n a with
    | some c => some c
    | none => findR n b
  | .cond _ a b => match findR n a with
    | some c => some c
    | none => findR n b
  | .block _ c => findR n c
  | .loop c => findR n c
  | .scope c => findR n c
  | _ => none
noncomputable def c8 : Code := (findR 8 (Try.f3.body.getD .skip)).getD .skip
/-- gone through to its end, in a state of E -/
def QN (E : Array Value → World → Prop) : Exit → Act → World → Prop
  | .normal, a, w => ∃ T, a = ⟨T, []⟩ ∧ E T w
  | _, _, _ => False
theorem wpAnyH_frame {P : Program} {md : Region.Mode} {ops : Array Oper} {Q : Exit → Act → World → Prop} {S : World → Prop} {fuel : Nat} {listed : Array Bool} {a : Act} {w : World} (R : Act → Prop) (ha : R a) (h : ∀ a', R a' → wpAnyH P md ops Q S fuel listed a' w) : wpAnyH P md ops Q S fuel listed a w := h a ha
theorem load39 {ops : Array Oper} {a : Act} {o : Oper} {d qb lb : Nat} (hop : o.op = .load 39 (.tmp d)) (he : a.eval (.tmp d) = .pointer (some ⟨qb, 1, none⟩)) (hw : Region.wanted o (yielded ops a.tmps) = true) : YieldsIf Try.prog ops (fun w' => w'.cell? ⟨qb, 1, none⟩ = some (.pointer (some ⟨lb, 0, none⟩))) o (.pointer (some ⟨lb, 0, none⟩)) a :=
  .inl ⟨hw, fun w hSw => by
    have hS : w.cell? ⟨qb, 1, none⟩ = some (.pointer (some ⟨lb, 0, none⟩)) := hSw
    unfold execOp
    simp only [hop, he]
    go_simp⟩
/-- what lies behind it -/
def EdF (qb lb sb : Nat) (S : Sh) (V : Vw) (wt : World) (s34 s35 s36 : Value) (T : Array Value) (w8 : World) : Prop :=
  ∃ fb vb, T.size = 432 ∧ Knows T [(3, .pointer (some ⟨qb, 0, none⟩)), (34, s34), (35, s35), (36, s36), (6, .pointer (some ⟨fb, 0, none⟩)), (7, .pointer (some ⟨vb, 0, none⟩))] ∧ VarFv wt lb sb S V fb vb w8
set_option maxRecDepth 100000 in
set_option maxHeartbeats 400000000 in
theorem evr_f (qb lb sb : Nat) (S : Sh) (V : Vw) (wt : World) (s34 s35 s36 : Value)
    (HFRM : Hid (∀ w', Kp no wt w' → Calls Try.prog 11 #[.pointer (some ⟨lb, 0, none⟩)] w' fun e w6 => ∃ fb, e = .returned (.pointer (some ⟨fb, 0, none⟩)) ∧ Kp (one lb) w' w6 ∧ LayAt w6 lb sb S V ∧ FrameAt w6 fb (frameOf S V) ∧ w'.heap.size ≤ fb ∧ Cached w6 lb S V ∧ Kp (one lb) wt w6))
    (HVIEW : Hid (∀ w', LayAt w' lb sb S V → Kp (one lb) wt w' → Calls Try.prog 12 #[.pointer (some ⟨lb, 0, none⟩)] w' fun e w'' => e = .returned (.agg #[.int .i64 (V.fr : Int), .int .i64 (V.fc : Int), .int .i64 (V.sr : Int), .int .i64 (V.sc : Int)]) ∧ Kp no w' w'' ∧ Kp (one lb) wt w''))
    (HQL : Hid (qb ≠ lb)) (q1 : wt.cell? ⟨qb, 1, none⟩ = some (.pointer (some ⟨lb, 0, none⟩))) (hll : lb < wt.heap.size) (hlq : qb < wt.heap.size)
    (T : Array Value) (hT : T.size = 432) (hk : Knows T [(3, .pointer (some ⟨qb, 0, none⟩)), (34, s34), (35, s35), (36, s36)]) :
    Code.wp Try.prog c8 (QN (EdF qb lb sb S V wt s34 s35 s36)) ⟨T, []⟩ wt := by
  obtain ⟨f, hfT, hf⟩ := lit432 T hT
  obtain ⟨h3, h34, h35, h36, _⟩ := hk
  rw [hf] at h3 h34 h35 h36
  clear hf hT
  subst hfT
  simp only [h3, h34, h35, h36]
  clear h3 h34 h35 h36
  conv => arg 2; whnf
  refine wp_region_held_drew (S := fun w' => w'.cell? ⟨qb, 1, none⟩ = some (.pointer (some ⟨lb, 0, none⟩))) (by kernel_rfl) q1 (fun hS0 => ?_)
  refine wpAnyH_take (i := 0) (v := (.pointer (some ⟨qb, 0, none⟩))) rfl (by kernel_rfl) (by kernel_rfl) (by kernel_rfl) (fun _ _ _ h => False.elim h) (Or.inl ⟨by kernel_rfl, fun _ _ => by kernel_rfl⟩) hS0 ?_
  refine wpAnyH_take (i := 1) (v := (.pointer (some ⟨qb, 0, none⟩))) rfl (by kernel_rfl) (by kernel_rfl) (by kernel_rfl) (fun _ _ _ h => False.elim h) (Or.inl ⟨by kernel_rfl, fun _ _ => by kernel_rfl⟩) hS0 ?_
  refine wpAnyH_take (i := 2) (v := (.pointer (some ⟨qb, 1, none⟩))) rfl (by kernel_rfl) (by kernel_rfl) (by kernel_rfl) (fun _ _ _ h => False.elim h) (Or.inl ⟨by kernel_rfl, fun _ _ => by kernel_rfl⟩) hS0 ?_
  refine wpAnyH_take (i := 3) (v := (.pointer (some ⟨lb, 0, none⟩))) rfl (by kernel_rfl) (by kernel_rfl) (by kernel_rfl) (fun _ _ _ h => False.elim h) (load39 rfl (by kernel_rfl) (by kernel_rfl)) hS0 ?_
  refine wpAnyH_take (i := 5) (v := (.pointer (some ⟨qb, 0, none⟩))) rfl (by kernel_rfl) (by kernel_rfl) (by kernel_rfl) (fun _ _ _ h => False.elim h) (Or.inl ⟨by kernel_rfl, fun _ _ => by kernel_rfl⟩) hS0 ?_
  refine wpAnyH_take (i := 6) (v := (.pointer (some ⟨qb, 0, none⟩))) rfl (by kernel_rfl) (by kernel_rfl) (by kernel_rfl) (fun _ _ _ h => False.elim h) (Or.inl ⟨by kernel_rfl, fun _ _ => by kernel_rfl⟩) hS0 ?_
  refine wpAnyH_take (i := 7) (v := (.pointer (some ⟨qb, 1, none⟩))) rfl (by kernel_rfl) (by kernel_rfl) (by kernel_rfl) (fun _ _ _ h => False.elim h) (Or.inl ⟨by kernel_rfl, fun _ _ => by kernel_rfl⟩) hS0 ?_
  refine wpAnyH_take (i := 8) (v := (.pointer (some ⟨lb, 0, none⟩))) rfl (by kernel_rfl) (by kernel_rfl) (by kernel_rfl) (fun _ _ _ h => False.elim h) (load39 rfl (by kernel_rfl) (by kernel_rfl)) hS0 ?_
  refine wpAnyH_frame (fun a' => ∃ T, a' = ⟨T, []⟩ ∧ T.size = 432 ∧ Knows T [(3, .pointer (some ⟨qb, 0, none⟩)), (34, s34), (35, s35), (36, s36), (46, .pointer (some ⟨lb, 0, none⟩)), (51, .pointer (some ⟨lb, 0, none⟩))]) ⟨_, rfl, by kernel_rfl, ⟨by kernel_rfl, by kernel_rfl, by kernel_rfl, by kernel_rfl, by kernel_rfl, by kernel_rfl, trivial⟩⟩ ?_
  rintro a' ⟨T, rfl, hT, hk⟩
  obtain ⟨f, hfT, hf⟩ := lit432 T hT
  obtain ⟨h3, h34, h35, h36, h46, h51, _⟩ := hk
  rw [hf] at h3 h34 h35 h36 h46 h51
  clear hf hT
  subst hfT
  simp only [h3, h34, h35, h36, h46, h51]
  clear h3 h34 h35 h36 h46 h51
  refine wpAnyH_ready (rs := [4, 10]) (by kernel_rfl) (by simp) ?_
  refine AllReadyH.cons rfl (fun K hK => ?_) (AllReadyH.cons rfl (fun K hK => ?_) AllReadyH.nil)
  · go_simp
    refine (HFRM.out _ ((Kp.refl no wt).drew)).mono ?_
    rintro e w6 ⟨fb, rfl, k6, hL6, hF6, hn6, hC6, kt6⟩
    have z1 := kt6.cell q1 HQL.out
    refine hK.out _ _ z1 (fun _ => ?_)
    clear hK K
    refine wpAnyH_ready (rs := [9, 10]) (by kernel_rfl) (by simp) ?_
    refine AllReadyH.cons rfl (fun K hK => ?_) (AllReadyH.cons rfl (fun K hK => ?_) AllReadyH.nil)
    · go_simp
      refine (HVIEW.out _ hL6 kt6).mono ?_
      rintro e w7 ⟨rfl, k7, kt7⟩
      have z2 := kt7.cell q1 HQL.out
      refine hK.out _ _ z2 (fun _ => ?_)
      clear hK K
      refine wpAnyH_ready (rs := [10]) (by kernel_rfl) (by simp) ?_
      refine AllReadyH.cons rfl (fun K hK => ?_) AllReadyH.nil
      go_simp
      refine hK.out _ _ (((Kp.refl no w7).alloc _).cell z2 id) (fun _ => ?_)
      clear hK K
      refine wpAnyH_ready (rs := [11]) (by kernel_rfl) (by simp) ?_
      refine AllReadyH.cons rfl (fun K hK => ?_) AllReadyH.nil
      go_simp
      refine hK.out _ _ (((Kp.refl no w7).alloc _).cell z2 id) (fun _ => ?_)
      clear hK K
      refine wpAnyH_ready (rs := [12]) (by kernel_rfl) (by simp) ?_
      refine AllReadyH.cons rfl (fun K hK => ?_) AllReadyH.nil
      go_simp
      refine hK.out _ _ (((Kp.refl no w7).alloc _).cell z2 id) (fun _ => ?_)
      clear hK K
      refine wpAnyH_done (by kernel_rfl) ?_ _
      refine ⟨_, rfl, fb, w7.heap.size, ?_, ?_, ?_⟩
      · kernel_rfl
      · exact ⟨by kernel_rfl, by kernel_rfl, by kernel_rfl, by kernel_rfl, by kernel_rfl, by kernel_rfl, trivial⟩
      · exact VarFv.c k6 hL6 hF6 hn6 hC6 k7
    · go_simp
      refine hK.out _ _ (((Kp.refl no w6).alloc _).cell z1 id) (fun _ => ?_)
      clear hK K
      refine wpAnyH_ready (rs := [9]) (by kernel_rfl) (by simp) ?_
      refine AllReadyH.cons rfl (fun K hK => ?_) AllReadyH.nil
      go_simp
      refine (HVIEW.out _ (hL6.on ((Kp.refl no _).alloc _)) (kt6.alloc _)).mono ?_
      rintro e w7 ⟨rfl, k7, kt7⟩
      have z2 := kt7.cell q1 HQL.out
      refine hK.out _ _ z2 (fun _ => ?_)
      clear hK K
      obtain ⟨n0, n1, n2, n3, n4, n5, n6, n7⟩ := alloc4d (Kp.left_drew k7)
      have hnq : w6.heap.size ≠ qb := by
        have h2 : qb < w6.heap.size := cell_lt z1
        omega
      refine wpAnyH_ready (rs := [11]) (by kernel_rfl) (by simp) ?_
      refine AllReadyH.cons rfl (fun K hK => ?_) AllReadyH.nil
      go_simp
      refine hK.out _ _ z2 (fun _ => ?_)
      clear hK K
      refine wpAnyH_ready (rs := [12]) (by kernel_rfl) (by simp) ?_
      refine AllReadyH.cons rfl (fun K hK => ?_) AllReadyH.nil
      go_simp
      refine hK.out _ _ (by rw [World.cell?_setCell_far _ _ _ _ hnq, World.cell?_setCell_far _ _ _ _ hnq, World.cell?_setCell_far _ _ _ _ hnq, World.cell?_setCell_far _ _ _ _ hnq]; exact z2) (fun _ => ?_)
      clear hK K
      refine wpAnyH_done (by kernel_rfl) ?_ _
      refine ⟨_, rfl, fb, w6.heap.size, ?_, ?_, ?_⟩
      · kernel_rfl
      · exact ⟨by kernel_rfl, by kernel_rfl, by kernel_rfl, by kernel_rfl, by kernel_rfl, by kernel_rfl, trivial⟩
      · exact VarFv.b k6 hll hL6 hF6 hn6 hC6 k7
  · go_simp
    refine hK.out _ _ (((Kp.refl no wt).drew.alloc _).cell q1 id) (fun _ => ?_)
    clear hK K
    refine wpAnyH_ready (rs := [4]) (by kernel_rfl) (by simp) ?_
    refine AllReadyH.cons rfl (fun K hK => ?_) AllReadyH.nil
    go_simp
    refine (HFRM.out _ ((Kp.refl no wt).drew.alloc _)).mono ?_
    rintro e w6 ⟨fb, rfl, k6, hL6, hF6, hn6, hC6, kt6⟩
    have z1 := kt6.cell q1 HQL.out
    refine hK.out _ _ z1 (fun _ => ?_)
    clear hK K
    have k6' : Kp (one lb) (wt.alloc (.cells #[.int .i64 0, .int .i64 0, .int .i64 0, .int .i64 0] 44)).drew w6 := k6
    have hn6' : (wt.alloc (.cells #[.int .i64 0, .int .i64 0, .int .i64 0, .int .i64 0] 44)).drew.heap.size ≤ fb := hn6
    obtain ⟨m0, m1, m2, m3, m4, m5, m6, m7⟩ := alloc4o k6' hll
    clear k6 hn6
    refine wpAnyH_ready (rs := [9]) (by kernel_rfl) (by simp) ?_
    refine AllReadyH.cons rfl (fun K hK => ?_) AllReadyH.nil
    go_simp
    refine (HVIEW.out _ hL6 kt6).mono ?_
    rintro e w7 ⟨rfl, k7, kt7⟩
    have z2 := kt7.cell q1 HQL.out
    refine hK.out _ _ z2 (fun _ => ?_)
    clear hK K
    have n0 := k7.cell m0 id
    have n1 := k7.cell m1 id
    have n2 := k7.cell m2 id
    have n3 := k7.cell m3 id
    have n4 := (k7.frozen (p := ⟨_, 0, none⟩) (cell_lt m0) id).trans m4
    have n5 := (k7.frozen (p := ⟨_, 1, none⟩) (cell_lt m1) id).trans m5
    have n6 := (k7.frozen (p := ⟨_, 2, none⟩) (cell_lt m2) id).trans m6
    have n7 := (k7.frozen (p := ⟨_, 3, none⟩) (cell_lt m3) id).trans m7
    have hnq : wt.heap.size ≠ qb := by omega
    refine wpAnyH_ready (rs := [11]) (by kernel_rfl) (by simp) ?_
    refine AllReadyH.cons rfl (fun K hK => ?_) AllReadyH.nil
    go_simp
    refine hK.out _ _ z2 (fun _ => ?_)
    clear hK K
    refine wpAnyH_ready (rs := [12]) (by kernel_rfl) (by simp) ?_
    refine AllReadyH.cons rfl (fun K hK => ?_) AllReadyH.nil
    go_simp
    refine hK.out _ _ (by rw [World.cell?_setCell_far _ _ _ _ hnq, World.cell?_setCell_far _ _ _ _ hnq, World.cell?_setCell_far _ _ _ _ hnq, World.cell?_setCell_far _ _ _ _ hnq]; exact z2) (fun _ => ?_)
    clear hK K
    refine wpAnyH_done (by kernel_rfl) ?_ _
    refine ⟨_, rfl, fb, wt.heap.size, ?_, ?_, ?_⟩
    · kernel_rfl
    · exact ⟨by kernel_rfl, by kernel_rfl, by kernel_rfl, by kernel_rfl, by kernel_rfl, by kernel_rfl, trivial⟩
    · exact VarFv.a k6' hll hL6 hF6 hn6' hC6 k7
end Go.Proofs.Qxb6500653a
