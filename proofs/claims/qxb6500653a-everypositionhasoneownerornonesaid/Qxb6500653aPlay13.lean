/-
  The player's step (10): kind 13.
-/
import Derived.Test.Qxb6500653aPlayB
import Derived.Test.Qxb6500653aReach
namespace Go.Proofs.Qxb6500653a
open Go.RowKit

/-- Reach's rectangle in a variable of its own -/
structure VarRc (w5 : World) (lb sb : Nat) (S : Sh) (V : Vw) (b : Nat) (x0 x1 x2 x3 : Int) (wx : World) : Prop where
  kp : Kp (one lb) w5 wx
  lay : LayAt wx lb sb S V
  c0 : wx.cell? ⟨b, 0, none⟩ = some (.int .i64 x0)
  c1 : wx.cell? ⟨b, 1, none⟩ = some (.int .i64 x1)
  c2 : wx.cell? ⟨b, 2, none⟩ = some (.int .i64 x2)
  c3 : wx.cell? ⟨b, 3, none⟩ = some (.int .i64 x3)
theorem alloc4o {w w' : World} {lb : Nat} {x0 x1 x2 x3 : Value} {t : TypeId} (k : Kp (one lb) (w.alloc (.cells #[x0, x1, x2, x3] t)).drew w') (hl : lb < w.heap.size) :
    w'.cell? ⟨w.heap.size, 0, none⟩ = some x0 ∧ w'.cell? ⟨w.heap.size, 1, none⟩ = some x1 ∧ w'.cell? ⟨w.heap.size, 2, none⟩ = some x2 ∧ w'.cell? ⟨w.heap.size, 3, none⟩ = some x3 ∧
      w'.frozen? ⟨w.heap.size, 0, none⟩ = false ∧ w'.frozen? ⟨w.heap.size, 1, none⟩ = false ∧ w'.frozen? ⟨w.heap.size, 2, none⟩ = false ∧ w'.frozen? ⟨w.heap.size, 3, none⟩ = false := by
  have hn : ¬ one lb w.heap.size := fun e => by have e' : w.heap.size = lb := e; omega
  have hz : w.heap.size < (w.alloc (.cells #[x0, x1, x2, x3] t)).drew.heap.size := by simp
  have hf : ∀ o, w'.frozen? ⟨w.heap.size, o, none⟩ = false := fun o => by rw [k.frozen (p := ⟨w.heap.size, o, none⟩) hz hn]; show (w.alloc _).frozen? _ = _; simp
  refine ⟨k.cell (by show (w.alloc _).cell? _ = _; simp) hn, k.cell (by show (w.alloc _).cell? _ = _; simp) hn, k.cell (by show (w.alloc _).cell? _ = _; simp) hn, k.cell (by show (w.alloc _).cell? _ = _; simp) hn, hf _, hf _, hf _, hf _⟩
theorem VarRc.after {w w6 : World} {lb sb : Nat} {S : Sh} {V : Vw} (x0 x1 x2 x3 : Int) {t : TypeId} (k : Kp (one lb) w.drew w6) (hL : LayAt w6 lb sb S V) : VarRc w lb sb S V w6.heap.size x0 x1 x2 x3 (w6.alloc (.cells #[.int .i64 x0, .int .i64 x1, .int .i64 x2, .int .i64 x3] t)) :=
  ⟨k.drew_left.alloc _, hL.on ((Kp.refl no _).alloc _), by simp, by simp, by simp, by simp⟩
theorem VarRc.before {w w6 : World} {lb sb : Nat} {S : Sh} {V : Vw} (x0 x1 x2 x3 : Int) {z0 z1 z2 z3 : Value} {t : TypeId} (k : Kp (one lb) (w.alloc (.cells #[z0, z1, z2, z3] t)).drew w6) (hl : lb < w.heap.size) (hL : LayAt w6 lb sb S V) : VarRc w lb sb S V w.heap.size x0 x1 x2 x3 (put4 w6 w.heap.size (.int .i64 x0) (.int .i64 x1) (.int .i64 x2) (.int .i64 x3)) := by
  obtain ⟨m0, m1, m2, m3, _⟩ := alloc4o k hl
  obtain ⟨q0, q1, q2, q3⟩ := put4_at m0 m1 m2 m3 (.int .i64 x0) (.int .i64 x1) (.int .i64 x2) (.int .i64 x3)
  have k0 : Kp (one lb) w w6 := ((Kp.refl _ _).alloc _).trans k.drew_left
  have hn : w.heap.size ≠ lb := by omega
  have hz : w.heap.size < (w.alloc (.cells #[z0, z1, z2, z3] t)).drew.heap.size := by simp
  refine ⟨k0.put4 (fun h => absurd h (Nat.lt_irrefl _)) _ _ _ _, hL.put4 hn (k.nocell hz hn (by show (w.alloc _).cell? _ = _; simp)) _ _ _ _, q0, q1, q2, q3⟩

set_option maxRecDepth 100000 in
set_option maxHeartbeats 4000000 in
theorem play_13 (hss : SheetStepOk) (hdr : DrawRowOk) (w : World) (qb sb lb : Nat) (S : Sh) (V : Vw) (h : GameAt w qb sb lb S V) (hst : S.steps < 1000000) (a b c d : Int) (tx : ByteArray) (htx : tx.size ≤ 65536) :
    Calls Try.prog 10 #[.pointer (some ⟨qb, 0, none⟩), .agg #[.int .i64 13, .int .i64 a, .int .i64 b, .int .i64 c, .int .i64 d, .string tx]] w (PlayPost qb sb lb S V ⟨13, a, b, c, d, tx⟩ w) := by
  obtain ⟨w2, hw2⟩ : ∃ w2, w2 = (w.alloc (.cells #[.int .i64 13, .int .i64 a, .int .i64 b, .int .i64 c, .int .i64 d, .string tx] 28)).alloc (.cells #[.int .i64 0, .bool false, .int .i64 0, .int .i64 0, .slice none 0 0, .slice none 0 0] 35) := ⟨_, rfl⟩
  have HST : Hid (∀ w', Kp no w2 w' → Calls Try.prog 30 #[.pointer (some ⟨sb, 0, none⟩), .agg #[.int .i64 13, .int .i64 a, .int .i64 b, .int .i64 c, .int .i64 d, .string tx]] w' fun e w3 =>
      ∃ (cd : Int) (S' : Sh), e = .returned (.tuple #[.int .i64 cd, .bool false]) ∧ Mid w w3 qb sb lb w.heap.size S S' V ⟨13, a, b, c, d, tx⟩) := fun w' k => by
    have h0 := Mid.calls hss (o := ⟨13, a, b, c, d, tx⟩) h hst htx hw2 k
    exact h0
  have HK2 : Hid (Kp no w w2) := by show Kp no w w2; rw [hw2]; exact ((Kp.refl no w).alloc _).alloc _
  have q0 := HK2.out.cell h.q0 id
  have hB : Bx6 w2 w.heap.size (.int .i64 13) (.int .i64 a) (.int .i64 b) (.int .i64 c) (.int .i64 d) (.string tx) := by
    rw [hw2]
    exact (Bx6.made w _ _ _ _ _ _ 28).kp ((Kp.refl no _).alloc _) id
  have o0 := hB.c0
  have o1 := hB.c1
  have o2 := hB.c2
  have o3 := hB.c3
  have o4 := hB.c4
  have o5 := hB.c5
  have HGA : Hid (GameAt w qb sb lb S V) := h
  clear hB h hss
  obtain ⟨n0, hn0⟩ : ∃ n0, n0 = w.heap.size := ⟨_, rfl⟩
  have HN0 : Hid (n0 = w.heap.size) := hn0
  rw [← hn0] at HST o0 o1 o2 o3 o4 o5
  go_enter Try.func10, Try.ntmps10
  go_upto_region 1 with fail
  rw [← hw2, ← hn0]
  clear hw2 hn0
  go_cut [5, 6] (fun s5 s6 wx => ∃ (cd : Int) (S' : Sh), s5 = .int .i64 cd ∧ s6 = .bool false ∧ Mid w wx qb sb lb n0 S S' V ⟨13, a, b, c, d, tx⟩)
  case first =>
    go_region_held3 (fun w' => w'.cell? ⟨qb, 0, none⟩ = some (.pointer (some ⟨sb, 0, none⟩)) ∧ w'.cell? ⟨n0, 0, none⟩ = some (.int .i64 13) ∧ w'.cell? ⟨n0, 1, none⟩ = some (.int .i64 a) ∧ w'.cell? ⟨n0, 2, none⟩ = some (.int .i64 b) ∧ w'.cell? ⟨n0, 3, none⟩ = some (.int .i64 c) ∧ w'.cell? ⟨n0, 4, none⟩ = some (.int .i64 d) ∧ w'.cell? ⟨n0, 5, none⟩ = some (.string tx))
      (refine ⟨?_, ?_, ?_, ?_, ?_, ?_, ?_⟩ <;> assumption)
      (first | (go_at_call 30; refine (HST.out _ (by first | exact (Kp.refl no _).drew | exact Kp.refl no _)).mono ?_; rintro e w3 ⟨cd, S', rfl, hm⟩; have y0 := hm.g.q0; have y1 := hm.op.c0; have y2 := hm.op.c1; have y3 := hm.op.c2; have y4 := hm.op.c3; have y5 := hm.op.c4; have y6 := hm.op.c5))
    all_goals go_wp2_with fail
    all_goals go_meet
    all_goals exact ⟨cd, S', rfl, rfl, hm⟩
  case rest =>
    obtain ⟨cd, S', rfl, rfl, hm⟩ := hcut
    obtain ⟨w3, rfl⟩ : ∃ w3, w3 = wc := ⟨_, rfl⟩
    have HM : Hid (Mid w w3 qb sb lb n0 S S' V ⟨13, a, b, c, d, tx⟩) := hm
    clear hm HST q0 o0 o1 o2 o3 o4 o5 HK2
    obtain rfl : S' = S.tick := HM.out.same (by show ¬ ((0 : Int) ≤ 13 ∧ (13 : Int) ≤ 6); omega)
    obtain ⟨w5, hw5⟩ : ∃ w5, w5 = (w3.alloc (.cells #[.int .i64 a, .int .i64 b] 31)).alloc (.cells #[.int .i64 0, .bool false, .int .i64 0, .int .i64 0, .slice none 0 0, .slice none 0 0] 35) := ⟨_, rfl⟩
    obtain ⟨na, hna⟩ : ∃ na, na = w3.heap.size := ⟨_, rfl⟩
    have HK5 : Hid (Kp no w3 w5) := by show Kp no w3 w5; rw [hw5]; exact ((Kp.refl no w3).alloc _).alloc _
    have HOP : Hid (Bx6 w5 n0 (.int .i64 13) (.int .i64 a) (.int .i64 b) (.int .i64 c) (.int .i64 d) (.string tx)) := HM.out.op.kp HK5.out id
    have HRES : Hid (Bx6 w5 (n0 + 1) (.int .i64 0) (.bool false) (.int .i64 0) (.int .i64 0) (.slice none 0 0) (.slice none 0 0)) := HM.out.res.kp HK5.out id
    have HANS : Hid (Bx6 w5 (na + 1) (.int .i64 0) (.bool false) (.int .i64 0) (.int .i64 0) (.slice none 0 0) (.slice none 0 0)) := by
      show Bx6 _ _ _ _ _ _ _ _
      rw [hw5, hna]
      have := Bx6.made (w3.alloc (.cells #[.int .i64 a, .int .i64 b] 31)) (.int .i64 0) (.bool false) (.int .i64 0) (.int .i64 0) (.slice none 0 0) (.slice none 0 0) 35
      rw [World.size_alloc] at this
      exact this
    have HG5 : Hid (GameAt w5 qb sb lb S.tick V) := HM.out.g.on HK5.out
    have HNA : Hid (w.heap.size ≤ na ∧ n0 + 1 < na) := by
      have h1 := HM.out.kp.size
      have h2 : n0 + 1 < w3.heap.size := cell_lt HM.out.res.c0
      exact ⟨by omega, by omega⟩
    have HNE : Hid (qb ≠ lb ∧ n0 ≠ lb ∧ n0 + 1 ≠ lb ∧ na ≠ lb ∧ na + 1 ≠ lb) := by
      have h1 := HGA.out.lay.lt
      have h2 := HN0.out
      have h3 := HNA.out
      exact ⟨HG5.out.lb_ne.1, by omega, by omega, by omega, by omega⟩
    have t0 : w5.cell? ⟨na, 0, none⟩ = some (.int .i64 a) := by rw [hw5, hna]; exact ((Kp.refl no _).alloc _).cell (p := ⟨_, 0, none⟩) (by simp) id
    have t1 : w5.cell? ⟨na, 1, none⟩ = some (.int .i64 b) := by rw [hw5, hna]; exact ((Kp.refl no _).alloc _).cell (p := ⟨_, 1, none⟩) (by simp) id
    have u0 := HM.out.op.c0
    have u1 := HM.out.op.c1
    have u2 := HM.out.op.c2
    have ul : n0 < w3.heap.size := cell_lt u0
    have ul2 : n0 < w3.heap.size + 1 := by omega
    go_upto_region 22 with fail
    rw [← hw5, ← hna]
    clear hw5 hna u0 u1 u2 ul ul2
    have ne1 : na + 1 ≠ qb := fun e => by
      have h1 := HGA.out.q0
      have h2 : qb < w.heap.size := cell_lt h1
      have h3 := HNA.out
      omega
    have ne2 : na + 1 ≠ n0 := by have := HNA.out; omega
    have ne3 : na + 1 ≠ na := by omega
    have me1 : n0 + 1 ≠ qb := fun e => by
      have h1 := HGA.out.q0
      have h2 : qb < w.heap.size := cell_lt h1
      have h3 := HN0.out
      omega
    have me2 : n0 + 1 ≠ n0 := by omega
    have me3 : n0 + 1 ≠ na := by have := HNA.out; omega
    have q1 := HG5.out.q1
    have o1 := HOP.out.c1
    have o2 := HOP.out.c2
    have HC : Hid (∀ w1, Kp no w5 w1 → Calls Try.prog 26 #[.pointer (some ⟨lb, 0, none⟩), .agg #[.int .i64 a, .int .i64 b]] w1 fun e w6 => ∃ (x0 x1 x2 x3 : Int) (fl : Bool), e = .returned (.tuple #[.agg #[.int .i64 x0, .int .i64 x1, .int .i64 x2, .int .i64 x3], .bool fl]) ∧ Kp (one lb) w1 w6 ∧ LayAt w6 lb sb S.tick V) := fun w1 k1 => by
      have hg := HG5.out.on k1
      refine (reach_at hdr w1 lb sb S.tick V hg.sh hg.ok hg.lay hg.vok a b).mono ?_
      rintro e w6 ⟨e1, e3, e4⟩
      exact ⟨_, _, _, _, _, e1, e3, e4⟩
    have hll : lb < w5.heap.size := HG5.out.lay.lt
    have hlq : qb < w5.heap.size := cell_lt q1
    have hlt : na < w5.heap.size := cell_lt t0
    go_cut [9, 10] (fun s9 s10 wx => ∃ (b9 : Nat) (x0 x1 x2 x3 : Int) (fl : Bool), s9 = .pointer (some ⟨b9, 0, none⟩) ∧ s10 = .bool fl ∧ VarRc w5 lb sb S.tick V b9 x0 x1 x2 x3 wx)
    case first =>
      go_region_with (go_at_call 26; refine (HC.out _ (by first | exact (Kp.refl no _).drew | exact ((Kp.refl no _).alloc _).drew | exact (Kp.refl no _).drew.alloc _)).mono ?_; rintro e w6 ⟨x0, x1, x2, x3, fl, rfl, kp6, hL6⟩; first | (have m8 := alloc4o kp6 hll; obtain ⟨m0, m1, m2, m3, m4, m5, m6, m7⟩ := m8) | skip)
      all_goals go_wp2_with fail
      all_goals go_meet
      all_goals first
        | exact ⟨_, x0, x1, x2, x3, fl, rfl, rfl, VarRc.after x0 x1 x2 x3 kp6 hL6⟩
        | exact ⟨_, x0, x1, x2, x3, fl, rfl, rfl, VarRc.before x0 x1 x2 x3 kp6 hll hL6⟩
    case rest =>
    obtain ⟨b9, x0, x1, x2, x3, fl, rfl, rfl, hv⟩ := hcut
    obtain ⟨w6, rfl⟩ : ∃ w6, w6 = wc := ⟨_, rfl⟩
    have k6 := hv.kp
    have hL6 := hv.lay
    have HRES6 : Hid (Bx6 w6 (n0 + 1) (.int .i64 0) (.bool false) (.int .i64 0) (.int .i64 0) (.slice none 0 0) (.slice none 0 0)) := HRES.out.kp k6 HNE.out.2.2.1
    have HANS6 : Hid (Bx6 w6 (na + 1) (.int .i64 0) (.bool false) (.int .i64 0) (.int .i64 0) (.slice none 0 0) (.slice none 0 0)) := HANS.out.kp k6 HNE.out.2.2.2.2
    have HK6 : Hid (Kp (one lb) w5 w6) := k6
    have HL6 : Hid (LayAt w6 lb sb S.tick V) := hL6
    have HV6 : Hid (V.Ok) := HGA.out.vok
    have v0 := hv.c0
    have v1 := hv.c1
    have v2 := hv.c2
    have v3 := hv.c3
    have HNE6 : Hid (na + 1 ≠ n0 + 1) := by have := HNA.out; show _ ≠ _; omega
    clear hv k6 hL6 HC q1 o1 o2 t0 t1 hll hlq hlt
    cases fl with
    | false =>
      have r0 := HRES6.out.c0
      have r1 := HRES6.out.c1
      have r2 := HRES6.out.c2
      have r3 := HRES6.out.c3
      have r4 := HRES6.out.c4
      have r5 := HRES6.out.c5
      have rf0 := HRES6.out.free 0
      have rf1 := HRES6.out.free 1
      have rf2 := HRES6.out.free 2
      have rf3 := HRES6.out.free 3
      have rf4 := HRES6.out.free 4
      have rf5 := HRES6.out.free 5
      have s0 := HANS6.out.c0
      have s1 := HANS6.out.c1
      have s2 := HANS6.out.c2
      have s3 := HANS6.out.c3
      have s4 := HANS6.out.c4
      have s5 := HANS6.out.c5
      have hne := HNE6.out
      have HF : Hid (Kp (gX sb lb S) w (put6 w6 (n0 + 1) (.int .i64 0) (.bool false) (.int .i64 0) (.int .i64 0) (.slice none 0 0) (.slice none 0 0)) ∧ GameAt (put6 w6 (n0 + 1) (.int .i64 0) (.bool false) (.int .i64 0) (.int .i64 0) (.slice none 0 0) (.slice none 0 0)) qb sb lb S.tick V) := HM.out.fin HK5.out HK6.out HL6.out HV6.out (X := fun k => k = n0 + 1 ∨ k = na + 1) ((Kp.refl _ w6).put6 (b := n0 + 1) (fun _ => Or.inl rfl) _ _ _ _ _ _) (by
          rintro k (e | e)
          · subst e; exact ⟨_, HRES6.out.c1⟩
          · subst e; exact ⟨_, HANS6.out.c1⟩) (by
          have h1 := HN0.out
          have h2 := HNA.out
          rintro k (e | e) <;> omega)
      have HP : Hid (Bx6 (put6 w6 (n0 + 1) (.int .i64 0) (.bool false) (.int .i64 0) (.int .i64 0) (.slice none 0 0) (.slice none 0 0)) (n0 + 1) (.int .i64 0) (.bool false) (.int .i64 0) (.int .i64 0) (.slice none 0 0) (.slice none 0 0)) := HRES6.out.put (.int .i64 0) (.bool false) (.int .i64 0) (.int .i64 0) (.slice none 0 0) (.slice none 0 0)
      clear v0 v1 v2 v3
      go_wp2_with fail
      clear r0 r1 r2 r3 r4 r5 rf0 rf1 rf2 rf3 rf4 rf5 s0 s1 s2 s3 s4 s5
      change bodyPost _ _ _ _ _ (put6 w6 (n0 + 1) (.int .i64 0) (.bool false) (.int .i64 0) (.int .i64 0) (.slice none 0 0) (.slice none 0 0))
      generalize put6 w6 (n0 + 1) (.int .i64 0) (.bool false) (.int .i64 0) (.int .i64 0) (.slice none 0 0) (.slice none 0 0) = wE at HF HP ⊢
      have z0 := HP.out.c0
      have z1 := HP.out.c1
      have z2 := HP.out.c2
      have z3 := HP.out.c3
      have z4 := HP.out.c4
      have z5 := HP.out.c5
      refine bodyPost_ret (v := .agg #[.int .i64 0, .bool false, .int .i64 0, .int .i64 0, .slice none 0 0, .slice none 0 0]) (by simp [results, Try.results10, go_sem, z0, z1, z2, z3, z4, z5]) rfl ?_
      exact ⟨_, S.tick, V, rfl, HF.out.1, HF.out.2, HM.out.steps, HM.out.pb, fun e => absurd (show (13 : Int) = 9 from e) (by decide)⟩
    | true =>
      obtain ⟨w8, hw8⟩ : ∃ w8, w8 = (w6.setCell ⟨na + 1, 4, none⟩ (.slice (some ⟨w6.heap.size, 0, none⟩) 1 1)).alloc (.cells #[.int .i64 x0, .int .i64 x1, .int .i64 x2, .int .i64 x3] 50) := ⟨_, rfl⟩
      obtain ⟨rb8, hrb8⟩ : ∃ rb8, rb8 = w6.heap.size := ⟨_, rfl⟩
      have K68 : Kp (one (na + 1)) w6 w8 := by rw [hw8]; exact ((Kp.refl (one (na + 1)) w6).setCell (p := ⟨na + 1, 4, none⟩) (fun _ => rfl) _).alloc _
      have HK68 : Hid (Kp (fun k => k = n0 + 1 ∨ k = na + 1) w6 w8) := K68.mono (fun _ _ e => Or.inr e)
      have HRES8 : Hid (Bx6 w8 (n0 + 1) (.int .i64 0) (.bool false) (.int .i64 0) (.int .i64 0) (.slice none 0 0) (.slice none 0 0)) := HRES6.out.kp K68 (fun e => HNE6.out (Eq.symm e))
      have HANS8 : Hid (Bx6 w8 (na + 1) (.int .i64 0) (.bool false) (.int .i64 0) (.int .i64 0) (.slice (some ⟨rb8, 0, none⟩) 1 1) (.slice none 0 0)) := by
        show Bx6 _ _ _ _ _ _ _ _
        rw [hw8, hrb8]
        exact (HANS6.out.set 4 (.slice (some ⟨w6.heap.size, 0, none⟩) 1 1)).kp ((Kp.refl no _).alloc _) id
      have g4 := HANS6.out.c4
      have gf4 := HANS6.out.free 4
      have gl : na + 1 < w6.heap.size := cell_lt g4
      have gb : b9 < w6.heap.size := cell_lt v0
      clear K68
      go_upto_region 25 with fail
      rw [← hrb8] at hw8 ⊢
      rw [← hw8]
      clear hw8 hrb8 g4 gf4 gl gb v0 v1 v2 v3
      have r0 := HRES8.out.c0
      have r1 := HRES8.out.c1
      have r2 := HRES8.out.c2
      have r3 := HRES8.out.c3
      have r4 := HRES8.out.c4
      have r5 := HRES8.out.c5
      have rf0 := HRES8.out.free 0
      have rf1 := HRES8.out.free 1
      have rf2 := HRES8.out.free 2
      have rf3 := HRES8.out.free 3
      have rf4 := HRES8.out.free 4
      have rf5 := HRES8.out.free 5
      have s0 := HANS8.out.c0
      have s1 := HANS8.out.c1
      have s2 := HANS8.out.c2
      have s3 := HANS8.out.c3
      have s4 := HANS8.out.c4
      have s5 := HANS8.out.c5
      have hne := HNE6.out
      have HF : Hid (Kp (gX sb lb S) w (put6 w8 (n0 + 1) (.int .i64 0) (.bool false) (.int .i64 0) (.int .i64 0) (.slice (some ⟨rb8, 0, none⟩) 1 1) (.slice none 0 0)) ∧ GameAt (put6 w8 (n0 + 1) (.int .i64 0) (.bool false) (.int .i64 0) (.int .i64 0) (.slice (some ⟨rb8, 0, none⟩) 1 1) (.slice none 0 0)) qb sb lb S.tick V) := HM.out.fin HK5.out HK6.out HL6.out HV6.out (X := fun k => k = n0 + 1 ∨ k = na + 1) (HK68.out.put6 (b := n0 + 1) (fun _ => Or.inl rfl) _ _ _ _ _ _) (by
          rintro k (e | e)
          · subst e; exact ⟨_, HRES6.out.c1⟩
          · subst e; exact ⟨_, HANS6.out.c1⟩) (by
          have h1 := HN0.out
          have h2 := HNA.out
          rintro k (e | e) <;> omega)
      have HP : Hid (Bx6 (put6 w8 (n0 + 1) (.int .i64 0) (.bool false) (.int .i64 0) (.int .i64 0) (.slice (some ⟨rb8, 0, none⟩) 1 1) (.slice none 0 0)) (n0 + 1) (.int .i64 0) (.bool false) (.int .i64 0) (.int .i64 0) (.slice (some ⟨rb8, 0, none⟩) 1 1) (.slice none 0 0)) := HRES8.out.put (.int .i64 0) (.bool false) (.int .i64 0) (.int .i64 0) (.slice (some ⟨rb8, 0, none⟩) 1 1) (.slice none 0 0)
      go_wp2_with fail
      clear r0 r1 r2 r3 r4 r5 rf0 rf1 rf2 rf3 rf4 rf5 s0 s1 s2 s3 s4 s5
      change bodyPost _ _ _ _ _ (put6 w8 (n0 + 1) (.int .i64 0) (.bool false) (.int .i64 0) (.int .i64 0) (.slice (some ⟨rb8, 0, none⟩) 1 1) (.slice none 0 0))
      generalize put6 w8 (n0 + 1) (.int .i64 0) (.bool false) (.int .i64 0) (.int .i64 0) (.slice (some ⟨rb8, 0, none⟩) 1 1) (.slice none 0 0) = wE at HF HP ⊢
      have z0 := HP.out.c0
      have z1 := HP.out.c1
      have z2 := HP.out.c2
      have z3 := HP.out.c3
      have z4 := HP.out.c4
      have z5 := HP.out.c5
      refine bodyPost_ret (v := .agg #[.int .i64 0, .bool false, .int .i64 0, .int .i64 0, .slice (some ⟨rb8, 0, none⟩) 1 1, .slice none 0 0]) (by simp [results, Try.results10, go_sem, z0, z1, z2, z3, z4, z5]) rfl ?_
      exact ⟨_, S.tick, V, rfl, HF.out.1, HF.out.2, HM.out.steps, HM.out.pb, fun e => absurd (show (13 : Int) = 9 from e) (by decide)⟩
end Go.Proofs.Qxb6500653a
