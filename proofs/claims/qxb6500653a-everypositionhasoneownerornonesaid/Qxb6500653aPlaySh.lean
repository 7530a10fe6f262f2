/-
  The player's step (10): a step of the sheet.
-/
import Derived.Test.Qxb6500653aPlayB
namespace Go.Proofs.Qxb6500653a
open Go.RowKit

set_option maxRecDepth 100000 in
set_option maxHeartbeats 4000000 in
theorem play_sheet (kd : Int) (hss : SheetStepOk) (hk : 0 ≤ kd ∧ kd ≤ 6) (w : World) (qb sb lb : Nat) (S : Sh) (V : Vw) (h : GameAt w qb sb lb S V) (hst : S.steps < 1000000) (a b c d : Int) (tx : ByteArray) (htx : tx.size ≤ 65536) :
    Calls Try.prog 10 #[.pointer (some ⟨qb, 0, none⟩), .agg #[.int .i64 kd, .int .i64 a, .int .i64 b, .int .i64 c, .int .i64 d, .string tx]] w (PlayPost qb sb lb S V ⟨kd, a, b, c, d, tx⟩ w) := by
  obtain ⟨w2, hw2⟩ : ∃ w2, w2 = (w.alloc (.cells #[.int .i64 kd, .int .i64 a, .int .i64 b, .int .i64 c, .int .i64 d, .string tx] 28)).alloc (.cells #[.int .i64 0, .bool false, .int .i64 0, .int .i64 0, .slice none 0 0, .slice none 0 0] 35) := ⟨_, rfl⟩
  have HST : Hid (∀ w', Kp no w2 w' → Calls Try.prog 30 #[.pointer (some ⟨sb, 0, none⟩), .agg #[.int .i64 kd, .int .i64 a, .int .i64 b, .int .i64 c, .int .i64 d, .string tx]] w' fun e w3 =>
      ∃ (cd : Int) (S' : Sh), e = .returned (.tuple #[.int .i64 cd, .bool true]) ∧ Mid w w3 qb sb lb w.heap.size S S' V ⟨kd, a, b, c, d, tx⟩) := fun w' k => by
    have h0 := Mid.calls hss (o := ⟨kd, a, b, c, d, tx⟩) h hst htx hw2 k
    rw [show (decide (0 ≤ (⟨kd, a, b, c, d, tx⟩ : Od).kind) && decide ((⟨kd, a, b, c, d, tx⟩ : Od).kind ≤ 6)) = true by simp [hk.1, hk.2]] at h0
    exact h0
  have HK2 : Hid (Kp no w w2) := by show Kp no w w2; rw [hw2]; exact ((Kp.refl no w).alloc _).alloc _
  have q0 := HK2.out.cell h.q0 id
  have hB : Bx6 w2 w.heap.size (.int .i64 kd) (.int .i64 a) (.int .i64 b) (.int .i64 c) (.int .i64 d) (.string tx) := by
    rw [hw2]
    exact (Bx6.made w _ _ _ _ _ _ 28).kp ((Kp.refl no _).alloc _) id
  have o0 := hB.c0
  have o1 := hB.c1
  have o2 := hB.c2
  have o3 := hB.c3
  have o4 := hB.c4
  have o5 := hB.c5
  have HGA : Hid (GameAt w qb sb lb S V) := h
  clear hB h hss
  obtain ⟨n0, hn0⟩ : ∃ n0, n0 = w.heap.size := ⟨_, rfl⟩
  have HN0 : Hid (n0 = w.heap.size) := hn0
  rw [← hn0] at HST o0 o1 o2 o3 o4 o5
  go_enter Try.func10, Try.ntmps10
  go_upto_region 1 with fail
  rw [← hw2, ← hn0]
  clear hw2 hn0
  go_cut [5, 6] (fun s5 s6 wx => ∃ (cd : Int) (S' : Sh), s5 = .int .i64 cd ∧ s6 = .bool true ∧ Mid w wx qb sb lb n0 S S' V ⟨kd, a, b, c, d, tx⟩)
  case first =>
    go_region_held3 (fun w' => w'.cell? ⟨qb, 0, none⟩ = some (.pointer (some ⟨sb, 0, none⟩)) ∧ w'.cell? ⟨n0, 0, none⟩ = some (.int .i64 kd) ∧ w'.cell? ⟨n0, 1, none⟩ = some (.int .i64 a) ∧ w'.cell? ⟨n0, 2, none⟩ = some (.int .i64 b) ∧ w'.cell? ⟨n0, 3, none⟩ = some (.int .i64 c) ∧ w'.cell? ⟨n0, 4, none⟩ = some (.int .i64 d) ∧ w'.cell? ⟨n0, 5, none⟩ = some (.string tx))
      (refine ⟨?_, ?_, ?_, ?_, ?_, ?_, ?_⟩ <;> assumption)
      (first | (go_at_call 30; refine (HST.out _ (by first | exact (Kp.refl no _).drew | exact Kp.refl no _)).mono ?_; rintro e w3 ⟨cd, S', rfl, hm⟩; have y0 := hm.g.q0; have y1 := hm.op.c0; have y2 := hm.op.c1; have y3 := hm.op.c2; have y4 := hm.op.c3; have y5 := hm.op.c4; have y6 := hm.op.c5))
    all_goals go_wp2_with fail
    all_goals go_meet
    all_goals exact ⟨cd, S', rfl, rfl, hm⟩
  case rest =>
    obtain ⟨cd, S', rfl, rfl, hm⟩ := hcut
    obtain ⟨w3, rfl⟩ : ∃ w3, w3 = wc := ⟨_, rfl⟩
    have HM : Hid (Mid w w3 qb sb lb n0 S S' V ⟨kd, a, b, c, d, tx⟩) := hm
    clear hm HST q0 o0 o1 o2 o3 o4 o5 HK2
    have r0 := HM.out.res.c0
    have r1 := HM.out.res.c1
    have r2 := HM.out.res.c2
    have r3 := HM.out.res.c3
    have r4 := HM.out.res.c4
    have r5 := HM.out.res.c5
    have rf0 := HM.out.res.free 0
    have rf1 := HM.out.res.free 1
    have rf2 := HM.out.res.free 2
    have rf3 := HM.out.res.free 3
    have rf4 := HM.out.res.free 4
    have rf5 := HM.out.res.free 5
    have hP := Bx6.put HM.out.res (.int .i64 cd) (.bool false) (.int .i64 0) (.int .i64 0) (.slice none 0 0) (.slice none 0 0)
    have hK : Kp (one (n0 + 1)) w3 (put6 w3 (n0 + 1) (.int .i64 cd) (.bool false) (.int .i64 0) (.int .i64 0) (.slice none 0 0) (.slice none 0 0)) := Kp.put6 (Kp.refl (one (n0 + 1)) w3) (fun _ => rfl) _ _ _ _ _ _
    have HF : Hid (Kp (gX sb lb S) w (put6 w3 (n0 + 1) (.int .i64 cd) (.bool false) (.int .i64 0) (.int .i64 0) (.slice none 0 0) (.slice none 0 0)) ∧ GameAt (put6 w3 (n0 + 1) (.int .i64 cd) (.bool false) (.int .i64 0) (.int .i64 0) (.slice none 0 0) (.slice none 0 0)) qb sb lb S' V) := HM.out.fin0 hK (fun b e => by cases e; exact ⟨_, HM.out.res.c1⟩) (fun b e => by have := HN0.out; cases e; omega)
    have HP : Hid (Bx6 (put6 w3 (n0 + 1) (.int .i64 cd) (.bool false) (.int .i64 0) (.int .i64 0) (.slice none 0 0) (.slice none 0 0)) (n0 + 1) (.int .i64 cd) (.bool false) (.int .i64 0) (.int .i64 0) (.slice none 0 0) (.slice none 0 0)) := hP
    have HKD : Hid (0 ≤ kd ∧ kd ≤ 6) := hk
    clear hP hK hk
    go_wp2_with fail
    change bodyPost _ _ _ _ _ (put6 w3 (n0 + 1) (.int .i64 cd) (.bool false) (.int .i64 0) (.int .i64 0) (.slice none 0 0) (.slice none 0 0))
    generalize put6 w3 (n0 + 1) (.int .i64 cd) (.bool false) (.int .i64 0) (.int .i64 0) (.slice none 0 0) (.slice none 0 0) = wE at HF HP ⊢
    have z0 := HP.out.c0
    have z1 := HP.out.c1
    have z2 := HP.out.c2
    have z3 := HP.out.c3
    have z4 := HP.out.c4
    have z5 := HP.out.c5
    refine bodyPost_ret (v := .agg #[.int .i64 cd, .bool false, .int .i64 0, .int .i64 0, .slice none 0 0, .slice none 0 0]) (by simp [results, Try.results10, go_sem, z0, z1, z2, z3, z4, z5]) rfl ?_
    exact ⟨_, S', V, rfl, HF.out.1, HF.out.2, HM.out.steps, HM.out.pb, fun e => absurd (show kd = 9 from e) (by have := HKD.out; omega)⟩
end Go.Proofs.Qxb6500653a
