/-
  Rects (13) where the geometry is laid: nothing at all is written.
-/
import Derived.Test.Qxb6500653aRects
import Derived.Test.Qxb6500653aAxesV
namespace Go.Proofs.Qxb6500653a
open Go.RowKit

def RectsPostK (_lb _sb : Nat) (S : Sh) (V : Vw) (r c : Int) (w : World) (e : Ending) (w' : World) : Prop :=
  ∃ v, e = .returned v ∧ w'.ownsRow w.heap.size 50 4 v (rectsOf S V r c).length (flatR (rectsOf S V r c)) ∧ Kp no w w'

set_option maxRecDepth 100000 in
set_option maxHeartbeats 2000000 in
theorem rectsK_at (w : World) (lb sb : Nat) (S : Sh) (V : Vw) (h : SheetAt w sb S) (hS : S.Ok) (hL : LayAt w lb sb S V) (HC : Hid (Cached w lb S V)) (hV : V.Ok) (r c : Int) :
    Calls Try.prog 13 #[.pointer (some ⟨lb, 0, none⟩), .agg #[.int .i64 r, .int .i64 c]] w (RectsPostK lb sb S V r c w) := by
  obtain ⟨w1, hw1⟩ : ∃ w1, w1 = w.alloc (.cells #[.int .i64 r, .int .i64 c] 31) := ⟨_, rfl⟩
  obtain ⟨ad, had⟩ : ∃ ad, ad = w.heap.size := ⟨_, rfl⟩
  have HK1 : Hid (Kp no w w1) := by show Kp no w w1; rw [hw1]; exact (Kp.refl _ _).alloc _
  obtain ⟨v0, v1⟩ : w1.cell? ⟨ad, 0, none⟩ = some (.int .i64 r) ∧ w1.cell? ⟨ad, 1, none⟩ = some (.int .i64 c) := by
    subst hw1 had
    exact ⟨by simp, by simp⟩
  have HI : Hid (∀ w', Calls Try.prog 35 #[.agg #[.int .i64 r, .int .i64 c]] w' fun e w'' => e = .returned (.bool (inS r c)) ∧ Kp no w' w'') := fun w' => inSheet_at w' r c
  cases h1 : inS r c with
  | false =>
    rw [h1] at HI
    have HN : Hid (rectsOf S V r c = []) := by show _ = _; unfold rectsOf; exact if_neg (by rw [h1]; simp)
    go_enter Try.func13, Try.ntmps13
    go_wp2_with fail
    rw [← had, ← hw1]
    clear had hw1 h1
    go_cut [25] (fun s25 wx => s25 = .bool true ∧ Kp no w1 wx)
    case first =>
      have t0 : ∀ p : KpOf w1, p.to.cell? ⟨ad, 0, none⟩ = some (.int .i64 r) := fun p => p.h.cell v0 id
      have t1 : ∀ p : KpOf w1, p.to.cell? ⟨ad, 1, none⟩ = some (.int .i64 c) := fun p => p.h.cell v1 id
      refine wp_region_kp (by kernel_rfl) (by kernel_rfl) ?_
      repeat (go_big_quiet_step (exact kp_of (HI.out _)))
      refine wpQuiet_nil ?_
      intro _ hw'
      obtain ⟨⟨wq, kq⟩, hw''⟩ := hw'
      subst hw''
      go_wp2_with fail
      go_meet
      exact ⟨rfl, kq⟩
    case rest =>
      obtain ⟨rfl, k2⟩ := hcut
      go_wp2_with fail
      go_ret
      exact ⟨_, rfl, by rw [HN.out]; exact World.ownsRow_nil _ _ _ _, Kp.of_no (HK1.out.trans k2)⟩
  | true =>
    obtain ⟨rn, cn, rfl, rfl, hr, hc⟩ := inS_nat h1
    rw [h1] at HI
    obtain ⟨oR, hoR⟩ : ∃ oR, oR = ownR S.mg rn cn := ⟨_, rfl⟩
    obtain ⟨oC, hoC⟩ : ∃ oC, oC = ownC S.mg rn cn := ⟨_, rfl⟩
    have HO : Hid (∀ w', Kp no w1 w' → Calls Try.prog 36 #[.pointer (some ⟨lb, 0, none⟩), .agg #[.int .i64 (rn : Int), .int .i64 (cn : Int)]] w' fun e w'' => e = .returned (.agg #[.int .i64 (oR : Int), .int .i64 (oC : Int)]) ∧ Kp no w' w'') := fun w' k => by
      have := owner_at w' lb sb S (h.on (HK1.out.trans k)) hS ((hL.on (HK1.out.trans k)).src) rn cn
      rw [← hoR, ← hoC] at this
      exact this
    have hneq : ∀ W : World, (binOp .neq 31 (.agg #[.int .i64 (oR : Int), .int .i64 (oC : Int)]) (.agg #[.int .i64 (rn : Int), .int .i64 (cn : Int)])).run Try.prog W = .ok (.bool (!(((oR : Int) == (rn : Int)) && ((oC : Int) == (cn : Int))))) W := fun W => neq31 _ _ _ _ W
    obtain ⟨bo, hbo⟩ : ∃ bo : Bool, (!(((oR : Int) == (rn : Int)) && ((oC : Int) == (cn : Int)))) = bo := ⟨_, rfl⟩
    rw [hbo] at hneq
    have HBO : Hid ((!(((oR : Int) == (rn : Int)) && ((oC : Int) == (cn : Int)))) = bo) := hbo
    have HOR : Hid (oR = ownR S.mg rn cn ∧ oC = ownC S.mg rn cn) := ⟨hoR, hoC⟩
    have H1 : Hid (inS (rn : Int) (cn : Int) = true) := h1
    clear hbo hoR hoC h1
    go_enter Try.func13, Try.ntmps13
    go_wp2_with fail
    rw [← had, ← hw1]
    have hadl : Hid (ad ≠ lb ∧ w1.cell? ⟨ad, 10, none⟩ = none ∧ ad < w1.heap.size) := by
      refine ⟨by rw [had]; exact Nat.ne_of_gt hL.lt, by subst had hw1; simp, cell_lt v0⟩
    clear had hw1
    go_cut [25] (fun s25 wx => s25 = .bool bo ∧ Kp no w1 wx)
    case first =>
      have t0 : ∀ p : KpOf w1, p.to.cell? ⟨ad, 0, none⟩ = some (.int .i64 (rn : Int)) := fun p => p.h.cell v0 id
      have t1 : ∀ p : KpOf w1, p.to.cell? ⟨ad, 1, none⟩ = some (.int .i64 (cn : Int)) := fun p => p.h.cell v1 id
      refine wp_region_kp (by kernel_rfl) (by kernel_rfl) ?_
      repeat (go_big_quiet_step (first | exact kp_of (HI.out _) | exact kp_of (HO.out _ (KpOf.h _))))
      refine wpQuiet_nil ?_
      intro _ hw'
      obtain ⟨⟨wq, kq⟩, hw''⟩ := hw'
      subst hw''
      go_wp2_with fail
      go_meet
      exact ⟨rfl, kq⟩
    case rest =>
      obtain ⟨rfl, k2⟩ := hcut
      obtain ⟨w2, rfl⟩ : ∃ w2, w2 = wc := ⟨_, rfl⟩
      cases bo with
      | true =>
        have HN : Hid (rectsOf S V rn cn = []) := by
          show _ = _
          unfold rectsOf
          refine if_neg ?_
          rw [Int.toNat_natCast, Int.toNat_natCast, ← HOR.out.1, ← HOR.out.2]
          rintro ⟨_, e1, e2⟩
          have := HBO.out
          rw [e1, e2] at this
          simp at this
        go_wp2_with fail
        go_ret
        exact ⟨_, rfl, by rw [HN.out]; exact World.ownsRow_nil _ _ _ _, Kp.of_no (HK1.out.trans k2)⟩
      | false =>
        have HN : Hid (rectsOf S V rn cn = accRc S V (areaOf S rn cn) 2) := by
          show _ = _
          unfold rectsOf
          have hb := HBO.out
          simp only [Bool.not_eq_false', Bool.and_eq_true, beq_iff_eq] at hb
          rw [if_pos ⟨H1.out, by rw [Int.toNat_natCast, Int.toNat_natCast, ← HOR.out.1]; omega, by rw [Int.toNat_natCast, Int.toNat_natCast, ← HOR.out.2]; omega⟩, Int.toNat_natCast, Int.toNat_natCast]
        obtain ⟨o, ho⟩ : ∃ o, mergeAt S.mg rn cn = o := ⟨_, rfl⟩
        obtain ⟨A, hA⟩ : ∃ A, o.getD ⟨0, 0, 0, 0⟩ = A := ⟨_, rfl⟩
        obtain ⟨b, hb⟩ : ∃ b, o.isSome = b := ⟨_, rfl⟩
        have hm : ∀ w : World, (method 271 38 (.pointer (some ⟨sb, 0, none⟩)) "MergeAt").run Try.prog w = .ok (20, .pointer (some ⟨sb, 0, none⟩)) w := fun _ => by kernel_rfl
        have HKW2 : Hid (Kp no w w2) := HK1.out.trans k2
        have hS2 := h.on HKW2.out
        have HCall : Hid (∀ w' : World, Kp no w2 w' → Calls Try.prog 20 #[.pointer (some ⟨sb, 0, none⟩), .agg #[.int .i64 (rn : Int), .int .i64 (cn : Int)]] w' fun e w'' => e = .returned (.tuple #[.agg #[.int .i64 (A.t : Int), .int .i64 (A.l : Int), .int .i64 (A.b : Int), .int .i64 (A.r : Int)], .bool b]) ∧ Kp no w' w'') :=
          fun w' k => mergeAt_v w' sb S (hS2.on k) hS rn cn o ho A hA b hb
        have HAR : Hid ((if b then A else ⟨rn, cn, rn, cn⟩) = areaOf S rn cn) := by
          show _ = _
          unfold areaOf
          rw [← hb, ← hA, ho]
          cases o <;> rfl
        have hl2 : w2.cell? ⟨lb, 0, none⟩ = some (.iface 38 (.pointer (some ⟨sb, 0, none⟩))) := (hL.on HKW2.out).src
        have x0 := k2.cell v0 id
        have x1 := k2.cell v1 id
        have lad : ad < w2.heap.size := cell_lt x0
        have lbl : lb < w2.heap.size := cell_lt hl2
        clear ho hA hb hS2 HO HI hneq HBO HOR v0 v1
        go_wp2_with fail
        go_cut [5, 6] (fun s5 s6 wx => ∃ b5, s5 = .pointer (some ⟨b5, 0, none⟩) ∧ s6 = .bool b ∧ VarAr w2 A b5 wx)
        case first =>
          go_region_with (go_at_call 20; refine (HCall.out _ (by first | exact (Kp.refl no _).drew | exact ((Kp.refl no _).alloc _).drew | exact (Kp.refl no _).drew.alloc _)).mono ?_; rintro e w5 ⟨rfl, kp5⟩; first | (have m8 := alloc4d kp5; obtain ⟨m0, m1, m2, m3, m4, m5, m6, m7⟩ := m8) | skip)
          all_goals go_wp2_with fail
          all_goals go_meet
          all_goals first
            | exact ⟨_, rfl, rfl, VarAr.after A kp5⟩
            | exact ⟨_, rfl, rfl, VarAr.before A kp5⟩
        case rest =>
          obtain ⟨b5, rfl, rfl, hv⟩ := hcut
          obtain ⟨w4, rfl⟩ : ∃ w4, w4 = wc := ⟨_, rfl⟩
          clear HCall
          go_upto_if 36 with fail
          go_cut [] (fun wx => VarAr w2 (areaOf S rn cn) b5 wx)
          case first =>
            cases b with
            | true =>
              have HV : Hid (VarAr w2 (areaOf S rn cn) b5 w4) := hv.cast HAR.out
              go_wp2_with fail
              go_meet
              exact HV.out
            | false =>
              have HV : Hid (VarAr w2 (areaOf S rn cn) b5 (put4 w4 b5 (.int .i64 (rn : Int)) (.int .i64 (cn : Int)) (.int .i64 (rn : Int)) (.int .i64 (cn : Int)))) := (hv.store ⟨rn, cn, rn, cn⟩).cast HAR.out
              have y0 := hv.kp.cell x0 id
              have y1 := hv.kp.cell x1 id
              have z0 := hv.c0
              have z1 := hv.c1
              have z2 := hv.c2
              have z3 := hv.c3
              have g0 := hv.free 0
              have g1 := hv.free 1
              have g2 := hv.free 2
              have g3 := hv.free 3
              go_wp2_with fail
              go_meet
              exact HV.out
          case rest =>
            have hv := hcut
            obtain ⟨w5, rfl⟩ : ∃ w5, w5 = wc := ⟨_, rfl⟩
            have hao := areaOf_ok hS hr hc
            generalize areaOf S rn cn = a at *
            have HKW5 : Hid (Kp no w w5) := HKW2.out.trans hv.kp
            have hbl : Hid (b5 ≠ lb) := by show b5 ≠ lb; have := hv.new; omega
            go_wp2_with fail
            refine (axesK_at w5 lb sb S V (h.on HKW5.out) (hL.on HKW5.out) (HC.out.on HKW5.out)).mono ?_
            rintro e w6 ⟨rb, cb, rfl, k6, hA6, hL6⟩
            have u0 := k6.cell hv.c0 id
            have u1 := k6.cell hv.c1 id
            have u2 := k6.cell hv.c2 id
            have u3 := k6.cell hv.c3 id
            have HR : Hid (∀ i, i < 2 → ∀ w', Kp no w6 w' → Calls Try.prog 38 #[.pointer (some ⟨rb, 0, none⟩), .int .i64 (a.t : Int), .int .i64 (a.b : Int), .pointer (some ⟨rb, 2 + i * 4, none⟩)] w' fun e w'' => e = .returned (.tuple #[.int .i64 ((rowAx S V 0 0 0).clipB i a.t a.b).1, .int .i64 ((rowAx S V 0 0 0).clipB i a.t a.b).2]) ∧ Kp no w' w'') := fun i hi w' k => by
              obtain ⟨a1, a2, a3, hrow⟩ := (hA6.on k).row
              exact clipB_at w' rb _ hrow ((rowOk hS hV).ok _ _ _ _) i hi a.t a.b hao.tb hao.b
            have HC : Hid (∀ i, i < 2 → ∀ w', Kp no w6 w' → Calls Try.prog 38 #[.pointer (some ⟨cb, 0, none⟩), .int .i64 (a.l : Int), .int .i64 (a.r : Int), .pointer (some ⟨cb, 2 + i * 4, none⟩)] w' fun e w'' => e = .returned (.tuple #[.int .i64 ((colAx S V 0 0 0).clipB i a.l a.r).1, .int .i64 ((colAx S V 0 0 0).clipB i a.l a.r).2]) ∧ Kp no w' w'') := fun i hi w' k => by
              obtain ⟨a1, a2, a3, hcol⟩ := (hA6.on k).col
              exact clipB_at w' cb _ hcol ((colOk hS hV).ok _ _ _ _) i hi a.l a.r hao.lr hao.r
            have HKW6 : Hid (Kp no w w6) := (Kp.of_no HKW5.out).trans k6
            obtain ⟨i0, hi, hz0, hz1, hz2⟩ := info_parts info50
            clear hao hv hcut x0 x1 lad lbl hl2 hA6
            go_wp2_with fail
            go_loopw [9, 51] (fun ov iv wr => ∃ i : Nat, i ≤ 2 ∧ iv = .int .i64 (i : Int) ∧ Kp no w6 wr ∧ wr.ownsRow w6.heap.size 50 4 ov (accRc S V a i).length (flatR (accRc S V a i))) (fun _ iv _ => 2 - (intOf iv).toNat)
            case atStart => exact ⟨0, by omega, rfl, Kp.refl _ _, World.ownsRow_nil _ _ _ _⟩
            case round =>
              obtain ⟨i, hi2, rfl, kr, hown⟩ := hrel
              by_cases hlt : i < 2
              · have t0 : ∀ p : KpOf wr, p.to.cell? ⟨b5, 0, none⟩ = some (.int .i64 (a.t : Int)) := fun p => p.h.cell (kr.cell u0 id) id
                have t2 : ∀ p : KpOf wr, p.to.cell? ⟨b5, 2, none⟩ = some (.int .i64 (a.b : Int)) := fun p => p.h.cell (kr.cell u2 id) id
                have hil : (i : Int) < 2 := by omega
                have HRi := HR.out i hlt
                have HCE : Hid (∀ k, cellRc S V a i k = if ((rowAx S V 0 0 0).clipB i a.t a.b).1 < ((rowAx S V 0 0 0).clipB i a.t a.b).2 ∧ ((colAx S V 0 0 0).clipB k a.l a.r).1 < ((colAx S V 0 0 0).clipB k a.l a.r).2 then
    [⟨((rowAx S V 0 0 0).clipB i a.t a.b).1, ((colAx S V 0 0 0).clipB k a.l a.r).1, ((rowAx S V 0 0 0).clipB i a.t a.b).2, ((colAx S V 0 0 0).clipB k a.l a.r).2⟩] else []) := fun k => rfl
                generalize ((rowAx S V 0 0 0).clipB i a.t a.b).1 = y0 at *
                generalize ((rowAx S V 0 0 0).clipB i a.t a.b).2 = y1 at *
                have HRI : Hid (∀ w', Kp no w6 w' → Calls Try.prog 38 #[.pointer (some ⟨rb, 0, none⟩), .int .i64 (a.t : Int), .int .i64 (a.b : Int), .pointer (some ⟨rb, 2 + i * 4, none⟩)] w' fun e w'' => e = .returned (.tuple #[.int .i64 y0, .int .i64 y1]) ∧ Kp no w' w'') := HRi
                clear HRi
                go_wp2_with fail
                refine wp_region_kp (by kernel_rfl) (by kernel_rfl) ?_
                repeat (go_big_quiet_step (exact kp_of (HRI.out _ (kr.trans (KpOf.h _)))))
                refine wpQuiet_nil ?_
                intro _ hw'
                obtain ⟨pq, hpq⟩ := hw'
                subst hpq
                have kq := pq.h
                generalize pq.to = wq at kq ⊢
                have kq6 : Kp no w6 wq := kr.trans kq
                have howq := hown.kept (kq.grownOf none) (Classical.em _)
                clear t0 t2 kr kq hown
                go_wp2_with fail
                go_loopw [9, 68] (fun ov kv wz => ∃ k : Nat, k ≤ 2 ∧ kv = .int .i64 (k : Int) ∧ Kp no w6 wz ∧ wz.ownsRow w6.heap.size 50 4 ov (accRc S V a i ++ innRc S V a i k).length (flatR (accRc S V a i ++ innRc S V a i k))) (fun _ kv _ => 2 - (intOf kv).toNat)
                case atStart => exact ⟨0, by omega, rfl, kq6, by simpa [innRc] using howq⟩
                case round =>
                  clear howq kq6
                  obtain ⟨k, hk2, rfl, kz, hown⟩ := hrel
                  by_cases hklt : k < 2
                  · have t1 : ∀ p : KpOf wr, p.to.cell? ⟨b5, 1, none⟩ = some (.int .i64 (a.l : Int)) := fun p => p.h.cell (kz.cell u1 id) id
                    have t3 : ∀ p : KpOf wr, p.to.cell? ⟨b5, 3, none⟩ = some (.int .i64 (a.r : Int)) := fun p => p.h.cell (kz.cell u3 id) id
                    have hkl : (k : Int) < 2 := by omega
                    have HCk := HC.out k hklt
                    have HCX := HCE.out k
                    generalize ((colAx S V 0 0 0).clipB k a.l a.r).1 = x0 at *
                    generalize ((colAx S V 0 0 0).clipB k a.l a.r).2 = x1 at *
                    have HCI : Hid (∀ w', Kp no w6 w' → Calls Try.prog 38 #[.pointer (some ⟨cb, 0, none⟩), .int .i64 (a.l : Int), .int .i64 (a.r : Int), .pointer (some ⟨cb, 2 + k * 4, none⟩)] w' fun e w'' => e = .returned (.tuple #[.int .i64 x0, .int .i64 x1]) ∧ Kp no w' w'') := HCk
                    have HIN : Hid (innRc S V a i (k + 1) = innRc S V a i k ++ (if y0 < y1 ∧ x0 < x1 then [⟨y0, x0, y1, x1⟩] else [])) := by show innRc S V a i k ++ cellRc S V a i k = _; rw [HCX]
                    have HLEN : Hid ((accRc S V a i ++ innRc S V a i k).length ≤ 6) := by
                      show _ ≤ _
                      have q1 := accRc_len S V a i
                      have q2 := innRc_len S V a i k
                      rw [List.length_append]; omega
                    clear HCk HCX
                    go_wp2_with fail
                    refine wp_region_kp (by kernel_rfl) (by kernel_rfl) ?_
                    repeat (go_big_quiet_step (exact kp_of (HCI.out _ (kz.trans (KpOf.h _)))))
                    refine wpQuiet_nil ?_
                    intro _ hw'
                    obtain ⟨pq, hpq⟩ := hw'
                    subst hpq
                    have kq := pq.h
                    generalize pq.to = wq at kq ⊢
                    have kq6 : Kp no w6 wq := kz.trans kq
                    have howq := hown.kept (kq.grownOf none) (Classical.em _)
                    clear t1 t3 kz kq hown
                    by_cases d1 : y0 < y1
                    · have e1 : decide (y0 < y1) = true := by simp [d1]
                      by_cases d2 : x0 < x1
                      · have e2 : decide (x0 < x1) = true := by simp [d2]
                        have HI2 : Hid (innRc S V a i (k + 1) = innRc S V a i k ++ [⟨y0, x0, y1, x1⟩]) := by have := HIN.out; rw [if_pos ⟨d1, d2⟩] at this; exact this
                        have hsz6 : w6.heap.size ≤ wq.heap.size := kq6.size
                        generalize hLL : accRc S V a i ++ innRc S V a i k = L at *
                        have HLL : Hid (accRc S V a i ++ innRc S V a i k = L) := hLL
                        clear hLL
                        have hL6 : L.length ≤ 6 := HLEN.out
                        go_wp2_with (first | (at_builtin; refine wpList_append_own_at _ rfl _ _ 32 rfl w6.heap.size 50 i0 (.agg #[.int .i64 0, .int .i64 0, .int .i64 0, .int .i64 0]) 4 32 Try.underlying32 hi hz0 hz1 hz2 rfl (by decide) _ _ _ rfl (howq.alloc _) ⟨wq.heap.size, 0, none⟩ 1 1 [.int .i64 y0, .int .i64 x0, .int .i64 y1, .int .i64 x1] rfl rfl (cell_four_new _ _ _ _ _ _) (by intro u hu; simp at hu; rcases hu with rfl | rfl | rfl | rfl <;> rfl) (by unfold maxLen; omega) (by omega) (by simp; omega) ?_; intro v' w8 hown' hgrow hnil hloc) | fail)
                        refine ⟨⟨k + 1, by omega, by go_num, (kq6.alloc _).appended (howq.alloc _) hgrow, ?_⟩, by simp [intOf]; omega⟩
                        rw [HI2.out, ← List.append_assoc, HLL.out, List.length_append, flatR_append]
                        exact hown'
                      · have e2 : decide (x0 < x1) = false := by simp; omega
                        have HI2 : Hid (innRc S V a i (k + 1) = innRc S V a i k) := by have := HIN.out; rw [if_neg (by omega), List.append_nil] at this; exact this
                        go_wp2_with fail
                        go_roundw
                        case rel => exact ⟨k + 1, by omega, by go_num, kq6, by rw [HI2.out]; exact howq⟩
                        case measure => simp [intOf]; omega
                    · have e1 : decide (y0 < y1) = false := by simp; omega
                      have HI2 : Hid (innRc S V a i (k + 1) = innRc S V a i k) := by have := HIN.out; rw [if_neg (by omega), List.append_nil] at this; exact this
                      go_wp2_with fail
                      go_roundw
                      case rel => exact ⟨k + 1, by omega, by go_num, kq6, by rw [HI2.out]; exact howq⟩
                      case measure => simp [intOf]; omega
                  · have hk' : 2 = k := by omega
                    subst hk'
                    go_wp2_with fail
                    go_roundw
                    case rel => exact ⟨i + 1, by omega, by go_num, kz, hown⟩
                    case measure => simp [intOf]; omega
              · have hi' : 2 = i := by omega
                subst hi'
                have HF : Hid (wr.ownsRow w.heap.size 50 4 u9 (rectsOf S V rn cn).length (flatR (rectsOf S V rn cn))) := by rw [HN.out]; exact owns_mono hown HKW6.out.size
                go_wp2_with fail
                go_ret
                exact ⟨_, rfl, HF.out, HKW6.out.trans (Kp.of_no kr)⟩
end Go.Proofs.Qxb6500653a
