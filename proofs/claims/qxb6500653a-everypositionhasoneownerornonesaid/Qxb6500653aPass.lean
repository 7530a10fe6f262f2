/-
  drawRow's own function (69): may a text run over a column?
-/
import Derived.Test.Qxb6500653aRep
import Derived.Test.Qxb6500653aKq
import Derived.Test.Qxb6500653aBand
namespace Go.Proofs.Qxb6500653a
open Go.RowKit

/-- may a text run over it? -/
noncomputable def passB (S : Sh) (row col : Nat) : Bool := decide (colSz S col = 0) || ((mergeAt S.mg row col).isNone && (shown S.es row col).text.toList.isEmpty)

/-- what the function has at hand -/
structure PassEnv (w : World) (b9 b11 b7 cb lb sb : Nat) (S : Sh) (V : Vw) (row : Nat) : Prop where
  c9 : w.cell? ⟨b9, 0, none⟩ = some (.pointer (some ⟨cb, 0, none⟩))
  c11 : w.cell? ⟨b11, 0, none⟩ = some (.int .i64 (row : Int))
  c7 : w.cell? ⟨b7, 0, none⟩ = some (.pointer (some ⟨lb, 0, none⟩))
  src : w.cell? ⟨lb, 0, none⟩ = some (srcV sb)
  ax : ∃ zb tb l, AxAt w cb (colAx S V zb tb l)
  sh : SheetAt w sb S
theorem PassEnv.on {w w' : World} {b9 b11 b7 cb lb sb : Nat} {S : Sh} {V : Vw} {row : Nat} (h : PassEnv w b9 b11 b7 cb lb sb S V row) (k : Kp no w w') : PassEnv w' b9 b11 b7 cb lb sb S V row :=
  ⟨k.cell h.c9 id, k.cell h.c11 id, k.cell h.c7 id, k.cell h.src id, by obtain ⟨a, b, c, h1⟩ := h.ax; exact ⟨a, b, c, h1.kp k id id id id⟩, h.sh.on k⟩

set_option maxRecDepth 100000 in
set_option maxHeartbeats 2000000 in
theorem pass_at (w : World) (b9 b11 b7 cb lb sb : Nat) (S : Sh) (V : Vw) (row col : Nat) (hS : S.Ok) (h : PassEnv w b9 b11 b7 cb lb sb S V row) (hr : row < 64) (hc : col < 26) :
    Calls Try.prog 69 #[.int .i64 (col : Int), .pointer (some ⟨b9, 0, none⟩), .pointer (some ⟨b11, 0, none⟩), .pointer (some ⟨b7, 0, none⟩)] w fun e w' => e = .returned (.bool (passB S row col)) ∧ Kp no w w' := by
  have c9 := h.c9
  have c11 := h.c11
  obtain ⟨zb, tb, l, hA⟩ := h.ax
  have z0 : w.cell? ⟨cb, 0, none⟩ = some (.slice (some ⟨zb, 0, none⟩) 26 26) := hA.c0
  have z1 : w.cell? ⟨zb, col, none⟩ = some (.int .i64 (colSz S col : Int)) := hA.cz col hc
  have i1 : (col : Int) < 26 := by omega
  clear hA
  by_cases hz : colSz S col = 0
  · have HR : Hid (passB S row col = true) := by show _ = _; unfold passB; simp [hz]
    rw [hz] at z1
    clear hz
    go_enter Try.func69, Try.ntmps69
    go_wp2_with fail
    go_ret
    exact ⟨by rw [HR.out]; rfl, Kp.refl _ _⟩
  · have hz1 : ((colSz S col : Int) == 0) = false := by simp [hz]
    have HR : Hid (passB S row col = ((mergeAt S.mg row col).isNone && (shown S.es row col).text.toList.isEmpty)) := by show _ = _; unfold passB; simp [hz]
    generalize colSz S col = sz at *
    obtain ⟨w2, hw2⟩ : ∃ w2, w2 = w.alloc (.cells #[.int .i64 (row : Int), .int .i64 (col : Int)] 31) := ⟨_, rfl⟩
    obtain ⟨ad, had⟩ : ∃ ad, ad = w.heap.size := ⟨_, rfl⟩
    have HK2 : Hid (Kp no w w2) := by show Kp no w w2; rw [hw2]; exact (Kp.refl _ _).alloc _
    obtain ⟨v0, v1⟩ : w2.cell? ⟨ad, 0, none⟩ = some (.int .i64 (row : Int)) ∧ w2.cell? ⟨ad, 1, none⟩ = some (.int .i64 (col : Int)) := by
      subst hw2 had
      exact ⟨by simp, by simp⟩
    have h2 := h.on HK2.out
    have d7 := h2.c7
    have d0 : w2.cell? ⟨lb, 0, none⟩ = some (.iface 38 (.pointer (some ⟨sb, 0, none⟩))) := h2.src
    obtain ⟨o, ho⟩ : ∃ o, mergeAt S.mg row col = o := ⟨_, rfl⟩
    obtain ⟨A, hA⟩ : ∃ A, o.getD ⟨0, 0, 0, 0⟩ = A := ⟨_, rfl⟩
    obtain ⟨b, hb⟩ : ∃ b, o.isSome = b := ⟨_, rfl⟩
    have hm : ∀ w : World, (method 271 38 (.pointer (some ⟨sb, 0, none⟩)) "MergeAt").run Try.prog w = .ok (20, .pointer (some ⟨sb, 0, none⟩)) w := fun _ => by kernel_rfl
    have hmd : ∀ w : World, (method 271 38 (.pointer (some ⟨sb, 0, none⟩)) "Display").run Try.prog w = .ok (19, .pointer (some ⟨sb, 0, none⟩)) w := fun _ => by kernel_rfl
    have HCall : Hid (∀ w' : World, Kp no w2 w' → Calls Try.prog 20 #[.pointer (some ⟨sb, 0, none⟩), .agg #[.int .i64 (row : Int), .int .i64 (col : Int)]] w' fun e w'' => e = .returned (.tuple #[.agg #[.int .i64 (A.t : Int), .int .i64 (A.l : Int), .int .i64 (A.b : Int), .int .i64 (A.r : Int)], .bool b]) ∧ Kp no w' w'') :=
      fun w' k => mergeAt_v w' sb S (h2.sh.on k) hS row col o ho A hA b hb
    have HDisp : Hid (∀ w' : World, Kp no w2 w' → Calls Try.prog 19 #[.pointer (some ⟨sb, 0, none⟩), .agg #[.int .i64 (row : Int), .int .i64 (col : Int)]] w' fun e w'' => e = .returned (.agg #[.string (shown S.es row col).text, .bool (shown S.es row col).num, .int .i64 ((shown S.es row col).al : Int)]) ∧ Kp no w' w'') :=
      fun w' k => display_at w' sb S (h2.sh.on k) hS row col hr hc
    have HR2 : Hid (passB S row col = (!b && (shown S.es row col).text.toList.isEmpty)) := by
      show _ = _
      rw [HR.out, ho, ← hb]
      cases o <;> rfl
    have lad : ad < w2.heap.size := cell_lt v0
    have lb7 : b7 < w2.heap.size := cell_lt d7
    have lbl : lb < w2.heap.size := cell_lt d0
    clear ho hA hb HR h h2
    generalize (shown S.es row col).text = tx at *
    generalize (shown S.es row col).num = nm at *
    generalize (shown S.es row col).al = al at *
    have hfd : ∀ W : World, (Instr.field 70 (.agg #[.string tx, .bool nm, .int .i64 (al : Int)]) 0).run Try.prog W = .ok (.string tx) W := fun _ => by kernel_rfl
    go_enter Try.func69, Try.ntmps69
    go_wp2_with fail
    rw [← had, ← hw2]
    clear had hw2
    go_cut [8] (fun s8 wx => s8 = .bool b ∧ Kp no w2 wx)
    case first =>
      go_region_with (go_at_call 20; refine (HCall.out _ (by first | exact (Kp.refl no _).drew | exact ((Kp.refl no _).alloc _).drew | exact (Kp.refl no _).drew.alloc _)).mono ?_; rintro e w5 ⟨rfl, kp5⟩; first | (have m8 := alloc4d kp5; obtain ⟨m0, m1, m2, m3, m4, m5, m6, m7⟩ := m8) | skip)
      all_goals go_wp2_with fail
      all_goals go_meet
      all_goals first
        | exact ⟨rfl, (VarAr.after A kp5).kp⟩
        | exact ⟨rfl, (VarAr.before A kp5).kp⟩
    case rest =>
      obtain ⟨rfl, k5⟩ := hcut
      have t0 : ∀ p : KpOf wc, p.to.cell? ⟨ad, 0, none⟩ = some (.int .i64 (row : Int)) := fun p => p.h.cell (k5.cell v0 id) id
      have t1 : ∀ p : KpOf wc, p.to.cell? ⟨ad, 1, none⟩ = some (.int .i64 (col : Int)) := fun p => p.h.cell (k5.cell v1 id) id
      have t2 : ∀ p : KpOf wc, p.to.cell? ⟨b7, 0, none⟩ = some (.pointer (some ⟨lb, 0, none⟩)) := fun p => p.h.cell (k5.cell d7 id) id
      have t3 : ∀ p : KpOf wc, p.to.cell? ⟨lb, 0, none⟩ = some (.iface 38 (.pointer (some ⟨sb, 0, none⟩))) := fun p => p.h.cell (k5.cell d0 id) id
      cases b with
      | true =>
        go_wp2_with fail
        refine wp_region_kp (by kernel_rfl) (by kernel_rfl) ?_
        repeat (go_big_quiet_step (fail))
        refine wpQuiet_nil ?_
        intro _ hw'
        obtain ⟨pq, hpq⟩ := hw'
        subst hpq
        have kq := pq.h
        generalize pq.to = wq at kq ⊢
        go_wp2_with fail
        go_ret
        exact ⟨by rw [HR2.out]; rfl, (HK2.out.trans k5).trans kq⟩
      | false =>
        go_wp2_with fail
        refine wp_region_kp (by kernel_rfl) (by kernel_rfl) ?_
        repeat (go_big_quiet_step (exact kp_of (HDisp.out _ (k5.trans (KpOf.h _)))))
        refine wpQuiet_nil ?_
        intro _ hw'
        obtain ⟨pq, hpq⟩ := hw'
        subst hpq
        have kq := pq.h
        generalize pq.to = wq at kq ⊢
        go_wp2_with fail
        go_ret
        exact ⟨by rw [HR2.out]; rfl, (HK2.out.trans k5).trans kq⟩
end Go.Proofs.Qxb6500653a
