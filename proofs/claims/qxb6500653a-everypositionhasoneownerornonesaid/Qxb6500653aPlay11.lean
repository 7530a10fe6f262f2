/-
  The player's step (10): kind 11.
-/
import Derived.Test.Qxb6500653aPlayB
import Derived.Test.Qxb6500653aHit
namespace Go.Proofs.Qxb6500653a
open Go.RowKit

set_option maxRecDepth 100000 in
set_option maxHeartbeats 4000000 in
theorem play_11 (hss : SheetStepOk) (w : World) (qb sb lb : Nat) (S : Sh) (V : Vw) (h : GameAt w qb sb lb S V) (hst : S.steps < 1000000) (a b c d : Int) (tx : ByteArray) (htx : tx.size ≤ 65536) :
    Calls Try.prog 10 #[.pointer (some ⟨qb, 0, none⟩), .agg #[.int .i64 11, .int .i64 a, .int .i64 b, .int .i64 c, .int .i64 d, .string tx]] w (PlayPost qb sb lb S V ⟨11, a, b, c, d, tx⟩ w) := by
  obtain ⟨w2, hw2⟩ : ∃ w2, w2 = (w.alloc (.cells #[.int .i64 11, .int .i64 a, .int .i64 b, .int .i64 c, .int .i64 d, .string tx] 28)).alloc (.cells #[.int .i64 0, .bool false, .int .i64 0, .int .i64 0, .slice none 0 0, .slice none 0 0] 35) := ⟨_, rfl⟩
  have HST : Hid (∀ w', Kp no w2 w' → Calls Try.prog 30 #[.pointer (some ⟨sb, 0, none⟩), .agg #[.int .i64 11, .int .i64 a, .int .i64 b, .int .i64 c, .int .i64 d, .string tx]] w' fun e w3 =>
      ∃ (cd : Int) (S' : Sh), e = .returned (.tuple #[.int .i64 cd, .bool false]) ∧ Mid w w3 qb sb lb w.heap.size S S' V ⟨11, a, b, c, d, tx⟩) := fun w' k => by
    have h0 := Mid.calls hss (o := ⟨11, a, b, c, d, tx⟩) h hst htx hw2 k
    exact h0
  have HK2 : Hid (Kp no w w2) := by show Kp no w w2; rw [hw2]; exact ((Kp.refl no w).alloc _).alloc _
  have q0 := HK2.out.cell h.q0 id
  have hB : Bx6 w2 w.heap.size (.int .i64 11) (.int .i64 a) (.int .i64 b) (.int .i64 c) (.int .i64 d) (.string tx) := by
    rw [hw2]
    exact (Bx6.made w _ _ _ _ _ _ 28).kp ((Kp.refl no _).alloc _) id
  have o0 := hB.c0
  have o1 := hB.c1
  have o2 := hB.c2
  have o3 := hB.c3
  have o4 := hB.c4
  have o5 := hB.c5
  have HGA : Hid (GameAt w qb sb lb S V) := h
  clear hB h hss
  obtain ⟨n0, hn0⟩ : ∃ n0, n0 = w.heap.size := ⟨_, rfl⟩
  have HN0 : Hid (n0 = w.heap.size) := hn0
  rw [← hn0] at HST o0 o1 o2 o3 o4 o5
  go_enter Try.func10, Try.ntmps10
  go_upto_region 1 with fail
  rw [← hw2, ← hn0]
  clear hw2 hn0
  go_cut [5, 6] (fun s5 s6 wx => ∃ (cd : Int) (S' : Sh), s5 = .int .i64 cd ∧ s6 = .bool false ∧ Mid w wx qb sb lb n0 S S' V ⟨11, a, b, c, d, tx⟩)
  case first =>
    go_region_held3 (fun w' => w'.cell? ⟨qb, 0, none⟩ = some (.pointer (some ⟨sb, 0, none⟩)) ∧ w'.cell? ⟨n0, 0, none⟩ = some (.int .i64 11) ∧ w'.cell? ⟨n0, 1, none⟩ = some (.int .i64 a) ∧ w'.cell? ⟨n0, 2, none⟩ = some (.int .i64 b) ∧ w'.cell? ⟨n0, 3, none⟩ = some (.int .i64 c) ∧ w'.cell? ⟨n0, 4, none⟩ = some (.int .i64 d) ∧ w'.cell? ⟨n0, 5, none⟩ = some (.string tx))
      (refine ⟨?_, ?_, ?_, ?_, ?_, ?_, ?_⟩ <;> assumption)
      (first | (go_at_call 30; refine (HST.out _ (by first | exact (Kp.refl no _).drew | exact Kp.refl no _)).mono ?_; rintro e w3 ⟨cd, S', rfl, hm⟩; have y0 := hm.g.q0; have y1 := hm.op.c0; have y2 := hm.op.c1; have y3 := hm.op.c2; have y4 := hm.op.c3; have y5 := hm.op.c4; have y6 := hm.op.c5))
    all_goals go_wp2_with fail
    all_goals go_meet
    all_goals exact ⟨cd, S', rfl, rfl, hm⟩
  case rest =>
    obtain ⟨cd, S', rfl, rfl, hm⟩ := hcut
    obtain ⟨w3, rfl⟩ : ∃ w3, w3 = wc := ⟨_, rfl⟩
    have HM : Hid (Mid w w3 qb sb lb n0 S S' V ⟨11, a, b, c, d, tx⟩) := hm
    clear hm HST q0 o0 o1 o2 o3 o4 o5 HK2
    obtain rfl : S' = S.tick := HM.out.same (by show ¬ ((0 : Int) ≤ 11 ∧ (11 : Int) ≤ 6); omega)
    obtain ⟨w5, hw5⟩ : ∃ w5, w5 = (w3.alloc (.cells #[.int .i64 a, .int .i64 b] 31)).alloc (.cells #[.int .i64 0, .bool false, .int .i64 0, .int .i64 0, .slice none 0 0, .slice none 0 0] 35) := ⟨_, rfl⟩
    obtain ⟨na, hna⟩ : ∃ na, na = w3.heap.size := ⟨_, rfl⟩
    have HK5 : Hid (Kp no w3 w5) := by show Kp no w3 w5; rw [hw5]; exact ((Kp.refl no w3).alloc _).alloc _
    have HOP : Hid (Bx6 w5 n0 (.int .i64 11) (.int .i64 a) (.int .i64 b) (.int .i64 c) (.int .i64 d) (.string tx)) := HM.out.op.kp HK5.out id
    have HRES : Hid (Bx6 w5 (n0 + 1) (.int .i64 0) (.bool false) (.int .i64 0) (.int .i64 0) (.slice none 0 0) (.slice none 0 0)) := HM.out.res.kp HK5.out id
    have HANS : Hid (Bx6 w5 (na + 1) (.int .i64 0) (.bool false) (.int .i64 0) (.int .i64 0) (.slice none 0 0) (.slice none 0 0)) := by
      show Bx6 _ _ _ _ _ _ _ _
      rw [hw5, hna]
      have := Bx6.made (w3.alloc (.cells #[.int .i64 a, .int .i64 b] 31)) (.int .i64 0) (.bool false) (.int .i64 0) (.int .i64 0) (.slice none 0 0) (.slice none 0 0) 35
      rw [World.size_alloc] at this
      exact this
    have HG5 : Hid (GameAt w5 qb sb lb S.tick V) := HM.out.g.on HK5.out
    have HNA : Hid (w.heap.size ≤ na ∧ n0 + 1 < na) := by
      have h1 := HM.out.kp.size
      have h2 : n0 + 1 < w3.heap.size := cell_lt HM.out.res.c0
      exact ⟨by omega, by omega⟩
    have HNE : Hid (qb ≠ lb ∧ n0 ≠ lb ∧ n0 + 1 ≠ lb ∧ na ≠ lb ∧ na + 1 ≠ lb) := by
      have h1 := HGA.out.lay.lt
      have h2 := HN0.out
      have h3 := HNA.out
      exact ⟨HG5.out.lb_ne.1, by omega, by omega, by omega, by omega⟩
    have t0 : w5.cell? ⟨na, 0, none⟩ = some (.int .i64 a) := by rw [hw5, hna]; exact ((Kp.refl no _).alloc _).cell (p := ⟨_, 0, none⟩) (by simp) id
    have t1 : w5.cell? ⟨na, 1, none⟩ = some (.int .i64 b) := by rw [hw5, hna]; exact ((Kp.refl no _).alloc _).cell (p := ⟨_, 1, none⟩) (by simp) id
    have u0 := HM.out.op.c0
    have u1 := HM.out.op.c1
    have u2 := HM.out.op.c2
    have ul : n0 < w3.heap.size := cell_lt u0
    have ul2 : n0 < w3.heap.size + 1 := by omega
    go_upto_region 17 with fail
    rw [← hw5, ← hna]
    clear hw5 hna u0 u1 u2 ul ul2
    have ne1 : na + 1 ≠ qb := fun e => by
      have h1 := HGA.out.q0
      have h2 : qb < w.heap.size := cell_lt h1
      have h3 := HNA.out
      omega
    have ne2 : na + 1 ≠ n0 := by have := HNA.out; omega
    have ne3 : na + 1 ≠ na := by omega
    have me1 : n0 + 1 ≠ qb := fun e => by
      have h1 := HGA.out.q0
      have h2 : qb < w.heap.size := cell_lt h1
      have h3 := HN0.out
      omega
    have me2 : n0 + 1 ≠ n0 := by omega
    have me3 : n0 + 1 ≠ na := by have := HNA.out; omega
    have q1 := HG5.out.q1
    have o1 := HOP.out.c1
    have o2 := HOP.out.c2
    have HC : Hid (∀ w1, Kp no w5 w1 → Calls Try.prog 16 #[.pointer (some ⟨lb, 0, none⟩), .int .i64 a, .int .i64 b] w1 fun e w6 => ∃ (hR hC : Int) (fl : Bool), e = .returned (.tuple #[.agg #[.int .i64 hR, .int .i64 hC], .bool fl]) ∧ Kp (one lb) w5 w6 ∧ LayAt w6 lb sb S.tick V) := fun w1 k1 => by
      have hg := HG5.out.on k1
      refine (hit_at w1 lb sb S.tick V hg.sh hg.ok hg.lay hg.vok a b).mono ?_
      rintro e w6 ⟨e1, e3, e4⟩
      exact ⟨_, _, _, e1, (Kp.of_no k1).trans e3, e4⟩
    go_region_held3 (fun w' => w'.cell? ⟨qb, 1, none⟩ = some (.pointer (some ⟨lb, 0, none⟩)) ∧ w'.cell? ⟨n0, 1, none⟩ = some (.int .i64 a) ∧ w'.cell? ⟨n0, 2, none⟩ = some (.int .i64 b) ∧ w'.cell? ⟨na, 0, none⟩ = some (.int .i64 a) ∧ w'.cell? ⟨na, 1, none⟩ = some (.int .i64 b))
      (refine ⟨?_, ?_, ?_, ?_, ?_⟩ <;> first | (rw [World.cell?_setCell_far _ _ _ _ me1, World.cell?_setCell_far _ _ _ _ me1, World.cell?_setCell_far _ _ _ _ me1, World.cell?_setCell_far _ _ _ _ me1, World.cell?_setCell_far _ _ _ _ me1, World.cell?_setCell_far _ _ _ _ me1]; assumption) | (rw [World.cell?_setCell_far _ _ _ _ me2, World.cell?_setCell_far _ _ _ _ me2, World.cell?_setCell_far _ _ _ _ me2, World.cell?_setCell_far _ _ _ _ me2, World.cell?_setCell_far _ _ _ _ me2, World.cell?_setCell_far _ _ _ _ me2]; assumption) | (rw [World.cell?_setCell_far _ _ _ _ me3, World.cell?_setCell_far _ _ _ _ me3, World.cell?_setCell_far _ _ _ _ me3, World.cell?_setCell_far _ _ _ _ me3, World.cell?_setCell_far _ _ _ _ me3, World.cell?_setCell_far _ _ _ _ me3]; assumption) | (rw [World.cell?_setCell_far _ _ _ _ ne1, World.cell?_setCell_far _ _ _ _ ne1, World.cell?_setCell_far _ _ _ _ ne1]; assumption) | (rw [World.cell?_setCell_far _ _ _ _ ne2, World.cell?_setCell_far _ _ _ _ ne2, World.cell?_setCell_far _ _ _ _ ne2]; assumption) | (rw [World.cell?_setCell_far _ _ _ _ ne3, World.cell?_setCell_far _ _ _ _ ne3, World.cell?_setCell_far _ _ _ _ ne3]; assumption) | (rw [World.cell?_setCell_far _ _ _ _ ne1, World.cell?_setCell_far _ _ _ _ ne1]; assumption) | (rw [World.cell?_setCell_far _ _ _ _ ne2, World.cell?_setCell_far _ _ _ _ ne2]; assumption) | (rw [World.cell?_setCell_far _ _ _ _ ne3, World.cell?_setCell_far _ _ _ _ ne3]; assumption) | (rw [World.cell?_setCell_far _ _ _ _ ne1]; assumption) | (rw [World.cell?_setCell_far _ _ _ _ ne2]; assumption) | (rw [World.cell?_setCell_far _ _ _ _ ne3]; assumption) | assumption)
      (first | (go_at_call 16; refine (HC.out _ (by first | exact (Kp.refl no _).drew | exact Kp.refl no _)).mono ?_; rintro e w6 ⟨hR, hC, fl, rfl, k6, hL6⟩; have y1 := k6.cell q1 HNE.out.1; have y2 := k6.cell o1 HNE.out.2.1; have y3 := k6.cell o2 HNE.out.2.1; have y4 := k6.cell t0 HNE.out.2.2.2.1; have y5 := k6.cell t1 HNE.out.2.2.2.1; have HANS6 : Hid (Bx6 w6 (na + 1) (.int .i64 0) (.bool false) (.int .i64 0) (.int .i64 0) (.slice none 0 0) (.slice none 0 0)) := HANS.out.kp k6 HNE.out.2.2.2.2; have a1 := HANS6.out.c1; have af1 := HANS6.out.free 1; have a2 := HANS6.out.c2; have af2 := HANS6.out.free 2; have a3 := HANS6.out.c3; have af3 := HANS6.out.free 3))
    all_goals
     clear HANS6
     first
       | (obtain ⟨w7, hw7⟩ : ∃ w7, w7 = ((w6.setCell ⟨na + 1, 2, none⟩ (.int .i64 hR)).setCell ⟨na + 1, 3, none⟩ (.int .i64 hC)).setCell ⟨na + 1, 1, none⟩ (.bool fl) := ⟨_, rfl⟩; rw [← hw7]; have HW7 : Hid (w7 = ((w6.setCell ⟨na + 1, 2, none⟩ (.int .i64 hR)).setCell ⟨na + 1, 3, none⟩ (.int .i64 hC)).setCell ⟨na + 1, 1, none⟩ (.bool fl) ∨ w7 = ((w6.setCell ⟨na + 1, 1, none⟩ (.bool fl)).setCell ⟨na + 1, 2, none⟩ (.int .i64 hR)).setCell ⟨na + 1, 3, none⟩ (.int .i64 hC)) := Or.inl hw7)
       | (obtain ⟨w7, hw7⟩ : ∃ w7, w7 = ((w6.setCell ⟨na + 1, 1, none⟩ (.bool fl)).setCell ⟨na + 1, 2, none⟩ (.int .i64 hR)).setCell ⟨na + 1, 3, none⟩ (.int .i64 hC) := ⟨_, rfl⟩; rw [← hw7]; have HW7 : Hid (w7 = ((w6.setCell ⟨na + 1, 2, none⟩ (.int .i64 hR)).setCell ⟨na + 1, 3, none⟩ (.int .i64 hC)).setCell ⟨na + 1, 1, none⟩ (.bool fl) ∨ w7 = ((w6.setCell ⟨na + 1, 1, none⟩ (.bool fl)).setCell ⟨na + 1, 2, none⟩ (.int .i64 hR)).setCell ⟨na + 1, 3, none⟩ (.int .i64 hC)) := Or.inr hw7)
     have HRES6 : Hid (Bx6 w6 (n0 + 1) (.int .i64 0) (.bool false) (.int .i64 0) (.int .i64 0) (.slice none 0 0) (.slice none 0 0)) := HRES.out.kp k6 HNE.out.2.2.1
     have HANS6 : Hid (Bx6 w6 (na + 1) (.int .i64 0) (.bool false) (.int .i64 0) (.int .i64 0) (.slice none 0 0) (.slice none 0 0)) := HANS.out.kp k6 HNE.out.2.2.2.2
     have HK6 : Hid (Kp (one lb) w5 w6) := k6
     have HL6 : Hid (LayAt w6 lb sb S.tick V) := hL6
     have HV6 : Hid (V.Ok) := HGA.out.vok
     have K67 : Kp (one (na + 1)) w6 w7 := by
       rcases HW7.out with e | e <;> rw [e]
       · exact (((Kp.refl (one (na + 1)) w6).setCell (p := ⟨na + 1, 2, none⟩) (fun _ => rfl) _).setCell (p := ⟨na + 1, 3, none⟩) (fun _ => rfl) _).setCell (p := ⟨na + 1, 1, none⟩) (fun _ => rfl) _
       · exact (((Kp.refl (one (na + 1)) w6).setCell (p := ⟨na + 1, 1, none⟩) (fun _ => rfl) _).setCell (p := ⟨na + 1, 2, none⟩) (fun _ => rfl) _).setCell (p := ⟨na + 1, 3, none⟩) (fun _ => rfl) _
     have HK67 : Hid (Kp (fun k => k = n0 + 1 ∨ k = na + 1) w6 w7) := K67.mono (fun _ _ e => Or.inr e)
     have HNE6 : Hid (na + 1 ≠ n0 + 1) := by have := HNA.out; show _ ≠ _; omega
     have HRES7 : Hid (Bx6 w7 (n0 + 1) (.int .i64 0) (.bool false) (.int .i64 0) (.int .i64 0) (.slice none 0 0) (.slice none 0 0)) := HRES6.out.kp K67 (fun e => HNE6.out (Eq.symm e))
     have HANS7 : Hid (Bx6 w7 (na + 1) (.int .i64 0) (.bool fl) (.int .i64 hR) (.int .i64 hC) (.slice none 0 0) (.slice none 0 0)) := by
       show Bx6 _ _ _ _ _ _ _ _
       rcases HW7.out with e | e <;> rw [e]
       · exact ((HANS6.out.set 2 (.int .i64 hR)).set 3 (.int .i64 hC)).set 1 (.bool fl)
       · exact ((HANS6.out.set 1 (.bool fl)).set 2 (.int .i64 hR)).set 3 (.int .i64 hC)
     clear hw7 K67 k6 hL6 HC q1 o1 o2 t0 t1 y1 y2 y3 y4 y5 a1 a2 a3 af1 af2 af3
     have r0 := HRES7.out.c0
     have r1 := HRES7.out.c1
     have r2 := HRES7.out.c2
     have r3 := HRES7.out.c3
     have r4 := HRES7.out.c4
     have r5 := HRES7.out.c5
     have rf0 := HRES7.out.free 0
     have rf1 := HRES7.out.free 1
     have rf2 := HRES7.out.free 2
     have rf3 := HRES7.out.free 3
     have rf4 := HRES7.out.free 4
     have rf5 := HRES7.out.free 5
     have s0 := HANS7.out.c0
     have s1 := HANS7.out.c1
     have s2 := HANS7.out.c2
     have s3 := HANS7.out.c3
     have s4 := HANS7.out.c4
     have s5 := HANS7.out.c5
     have hne := HNE6.out
     have HF : Hid (Kp (gX sb lb S) w (put6 w7 (n0 + 1) (.int .i64 0) (.bool fl) (.int .i64 hR) (.int .i64 hC) (.slice none 0 0) (.slice none 0 0)) ∧ GameAt (put6 w7 (n0 + 1) (.int .i64 0) (.bool fl) (.int .i64 hR) (.int .i64 hC) (.slice none 0 0) (.slice none 0 0)) qb sb lb S.tick V) := HM.out.fin HK5.out HK6.out HL6.out HV6.out (X := fun k => k = n0 + 1 ∨ k = na + 1) (HK67.out.put6 (b := n0 + 1) (fun _ => Or.inl rfl) _ _ _ _ _ _) (by
         rintro k (e | e)
         · subst e; exact ⟨_, HRES6.out.c1⟩
         · subst e; exact ⟨_, HANS6.out.c1⟩) (by
         have h1 := HN0.out
         have h2 := HNA.out
         rintro k (e | e) <;> omega)
     have HP : Hid (Bx6 (put6 w7 (n0 + 1) (.int .i64 0) (.bool fl) (.int .i64 hR) (.int .i64 hC) (.slice none 0 0) (.slice none 0 0)) (n0 + 1) (.int .i64 0) (.bool fl) (.int .i64 hR) (.int .i64 hC) (.slice none 0 0) (.slice none 0 0)) := HRES7.out.put (.int .i64 0) (.bool fl) (.int .i64 hR) (.int .i64 hC) (.slice none 0 0) (.slice none 0 0)
     go_wp2_with fail
     clear r0 r1 r2 r3 r4 r5 rf0 rf1 rf2 rf3 rf4 rf5 s0 s1 s2 s3 s4 s5
     change bodyPost _ _ _ _ _ (put6 w7 (n0 + 1) (.int .i64 0) (.bool fl) (.int .i64 hR) (.int .i64 hC) (.slice none 0 0) (.slice none 0 0))
     generalize put6 w7 (n0 + 1) (.int .i64 0) (.bool fl) (.int .i64 hR) (.int .i64 hC) (.slice none 0 0) (.slice none 0 0) = wE at HF HP ⊢
     have z0 := HP.out.c0
     have z1 := HP.out.c1
     have z2 := HP.out.c2
     have z3 := HP.out.c3
     have z4 := HP.out.c4
     have z5 := HP.out.c5
     refine bodyPost_ret (v := .agg #[.int .i64 0, .bool fl, .int .i64 hR, .int .i64 hC, .slice none 0 0, .slice none 0 0]) (by simp [results, Try.results10, go_sem, z0, z1, z2, z3, z4, z5]) rfl ?_
     exact ⟨_, S.tick, V, rfl, HF.out.1, HF.out.2, HM.out.steps, HM.out.pb, fun e => absurd (show (11 : Int) = 9 from e) (by decide)⟩
end Go.Proofs.Qxb6500653a
