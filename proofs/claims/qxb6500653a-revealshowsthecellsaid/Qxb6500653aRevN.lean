/-
  RevealShowsTheCell (7): the walk.
-/
import Derived.Test.Qxb6500653aPlayOk
import Derived.Test.Qxb6500653aNewP
import Derived.Test.Qxb6500653aScript
import Derived.Test.Qxb6500653aRevLaw
import Derived.Test.Qxb6500653aRevPre
import Derived.Test.Qxb6500653aAft
import Derived.Test.Qxb6500653aRevCode
namespace Go.Proofs.Qxb6500653a
open Go.RowKit

set_option maxRecDepth 100000 in
set_option maxHeartbeats 400000000 in
theorem rev_some (hpl : PlayOk) (W : World) (b off n cap : Nat) (D : Nat → Od) (hn : n ≤ 140737488351232) (hsm : Calls Try.prog 8 #[.slice (some ⟨b, off, none⟩) n cap] W (SmallPost n D W)) (hD : ∀ i, i < n → OpAt W b (off + i * 6) (D i)) :
    Calls Try.prog 7 #[.slice (some ⟨b, off, none⟩) n cap] W fun e w' => e = .returned (.bool true) ∧ Kp no W w' := by
  have HPL : Hid PlayOk := hpl
  have HD : Hid (∀ i, i < n → OpAt W b (off + i * 6) (D i)) := hD
  have HSM : Hid (Calls Try.prog 8 #[.slice (some ⟨b, off, none⟩) n cap] W (SmallPost n D W)) := hsm
  clear hpl hD hsm
  go_enter Try.func7, Try.ntmps7
  go_wp2_with fail
  refine HSM.out.mono ?_
  rintro e w1 ⟨r, rfl, hw1, hr⟩
  subst hw1
  cases r with
  | false =>
    go_wp2_with fail
    go_ret
    exact ⟨rfl, Kp.refl _ _⟩
  | true =>
    have HSS : Hid (SmallS n D) := hr rfl
    clear hr
    go_wp2_with fail
    refine (newPlayer_n w1).mono ?_
    rintro e w2 ⟨qb, sb, lb, pb, rfl, k2, hg2, hb1, hb2, hb3⟩
    have HB : Hid (w1.heap.size ≤ sb ∧ w1.heap.size ≤ lb ∧ w1.heap.size ≤ pb) := ⟨hb1, hb2, hb3⟩
    have HG2 : Hid (GameAt w2 qb sb lb (Sh.new pb) ⟨0, 0, 0, 0⟩) := hg2
    have HK2 : Hid (Kp no w1 w2) := k2
    clear hb1 hb2 hb3 hg2 k2
    go_wp2_with fail
    refine wp_loop (RevI qb sb lb pb b off n cap w1) (fun a' _ => n - (intOf (a'.tmps.getD 24 undef)).toNat) ⟨_, 0, _, _, rfl, by kernel_rfl, ⟨by kernel_rfl, by kernel_rfl, by kernel_rfl, by kernel_rfl, trivial⟩, Nat.zero_le _, HG2.out, ⟨rfl, rfl⟩, HK2.out⟩ ?_
    clear HG2 HK2
    · rintro a' wr ⟨T, k, S, V, rfl, hT, hkw, hk, hg, hsp, kr⟩
      have HG : Hid (GameAt wr qb sb lb S V) := hg
      have HSP : Hid (S.steps = k ∧ S.pb = pb) := hsp
      clear hg hsp
      obtain ⟨f, hfT, hf⟩ := lit305 T hT
      obtain ⟨h3, h22, h23, h24, _⟩ := hkw
      rw [hf] at h3 h22 h23 h24
      clear hf hT
      subst hfT
      simp only [h3, h22, h23, h24]
      clear h3 h22 h23 h24
      by_cases hlt : k < n
      · obtain ⟨o, ho⟩ : ∃ o, D k = o := ⟨_, rfl⟩
        have HO : Hid (OpAt wr b (off + k * 6) o) := by
          show OpAt _ _ _ _
          rw [← ho]
          have h0 := HD.out k hlt
          exact ⟨kr.cell h0.c0 id, kr.cell h0.c1 id, kr.cell h0.c2 id, kr.cell h0.c3 id, kr.cell h0.c4 id, kr.cell h0.c5 id, h0.max, h0.wa, h0.wb, h0.wc, h0.wd⟩
        have HTX : Hid (o.text.size ≤ 65536) := by show _ ≤ _; rw [← ho]; exact HSS.out.2 k hlt
        obtain ⟨kd, a, bb, c, d, tx⟩ := o
        have c0 := HO.out.c0
        have c1 := HO.out.c1
        have c2 := HO.out.c2
        have c3 := HO.out.c3
        have c4 := HO.out.c4
        have c5 := HO.out.c5
        obtain ⟨w5, hw5⟩ : ∃ w5, w5 = wr.alloc (.cells #[.int .i64 kd, .int .i64 a, .int .i64 bb, .int .i64 c, .int .i64 d, .string tx] 28) := ⟨_, rfl⟩
        obtain ⟨b5, hb5⟩ : ∃ b5, b5 = wr.heap.size := ⟨_, rfl⟩
        have HO5 : Hid (Bx6 w5 b5 (.int .i64 kd) (.int .i64 a) (.int .i64 bb) (.int .i64 c) (.int .i64 d) (.string tx)) := by
          show Bx6 _ _ _ _ _ _ _ _
          rw [hw5, hb5]; exact Bx6.made wr _ _ _ _ _ _ 28
        have HK5 : Hid (Kp no wr w5) := by show Kp _ _ _; rw [hw5]; exact (Kp.refl no wr).alloc _
        have HG5 : Hid (GameAt w5 qb sb lb S V) := HG.out.on HK5.out
        have HB5 : Hid (wr.heap.size ≤ b5 ∧ b5 < w5.heap.size) := ⟨by omega, cell_lt HO5.out.c0⟩
        have HKR : Hid (Kp no w1 wr) := kr
        clear ho kr
        go_upto_region 7 with fail
        rw [← hw5, ← hb5]
        clear hw5 hb5 c0 c1 c2 c3 c4 c5
        have o1 := HO5.out.c1
        have o2 := HO5.out.c2
        have q1 := HG5.out.q1
        as_aux_lemma =>
          go_cut [6, 7] from 28 to 37 (fun s6 s7 wx => ∃ b6 b7, s6 = .pointer (some ⟨b6, 0, none⟩) ∧ s7 = .pointer (some ⟨b7, 0, none⟩) ∧ Two w5 wx b6 b7 (.int .i64 a) (.int .i64 bb) (.int .i64 (V.fr : Int)) (.int .i64 (V.fc : Int)) (.int .i64 (V.sr : Int)) (.int .i64 (V.sc : Int)))
          case first =>
            as_aux_lemma =>
              have l1 : b5 < w5.heap.size := cell_lt o1
              have l2 : qb < w5.heap.size := cell_lt q1
              have HV : Hid (∀ w', Kp no w5 w' → Calls Try.prog 12 #[.pointer (some ⟨lb, 0, none⟩)] w' fun e w'' => e = .returned (.agg #[.int .i64 (V.fr : Int), .int .i64 (V.fc : Int), .int .i64 (V.sr : Int), .int .i64 (V.sc : Int)]) ∧ Kp no w' w'' ∧ Kp no w5 w'') := fun w' k' => by
                refine (view_at w' lb sb S V (HG5.out.on k').lay).mono ?_
                rintro e w'' ⟨e1, e2⟩
                exact ⟨e1, e2, k'.trans e2⟩
              go_region_held3 (fun w' => w'.cell? ⟨b5, 1, none⟩ = some (.int .i64 a) ∧ w'.cell? ⟨b5, 2, none⟩ = some (.int .i64 bb) ∧ w'.cell? ⟨qb, 1, none⟩ = some (.pointer (some ⟨lb, 0, none⟩)))
                (refine ⟨?_, ?_, ?_⟩ <;> (first | (refine Kp.cell (X := no) (w := w5) ?_ o1 id; (repeat first | with_reducible assumption | with_reducible exact Kp.refl _ _ | with_reducible refine Kp.drew ?_ | with_reducible refine Kp.alloc ?_ _ | with_reducible refine Kp.setCell ?_ (fun h => absurd h (by first | (simp <;> omega) | omega)) _); done) | (refine Kp.cell (X := no) (w := w5) ?_ o2 id; (repeat first | with_reducible assumption | with_reducible exact Kp.refl _ _ | with_reducible refine Kp.drew ?_ | with_reducible refine Kp.alloc ?_ _ | with_reducible refine Kp.setCell ?_ (fun h => absurd h (by first | (simp <;> omega) | omega)) _); done) | (refine Kp.cell (X := no) (w := w5) ?_ q1 id; (repeat first | with_reducible assumption | with_reducible exact Kp.refl _ _ | with_reducible refine Kp.drew ?_ | with_reducible refine Kp.alloc ?_ _ | with_reducible refine Kp.setCell ?_ (fun h => absurd h (by first | (simp <;> omega) | omega)) _); done)))
                (first | (go_at_call 12; refine (HV.out _ (by first | exact (Kp.refl no _).drew | exact Kp.refl no _ | exact ((Kp.refl no _).alloc _).drew | exact (((Kp.refl no _).alloc _).alloc _).drew)).mono ?_; rintro e w6 ⟨rfl, k6, k56⟩; have z6 := k56.size; first | (have m8 := alloc24d k6; obtain ⟨⟨m0, m1, m2, m3⟩, n0, n1, n2, n3, n4, n5, n6, n7⟩ := m8; have z7 : w5.heap.size + 2 ≤ w6.heap.size := (by have z8 := k6.size; simpa using z8)) | (have m8 := alloc42d k6; obtain ⟨⟨m0, m1, m2, m3⟩, n0, n1, n2, n3, n4, n5, n6, n7⟩ := m8; have z7 : w5.heap.size + 2 ≤ w6.heap.size := (by have z8 := k6.size; simpa using z8)) | (have m8 := alloc2d k6; obtain ⟨m0, m1, m2, m3⟩ := m8; have z7 : w5.heap.size + 1 ≤ w6.heap.size := (by have z8 := k6.size; simpa using z8); have z9 : w5.heap.size < w6.heap.size := (by omega); have z10 : w5.heap.size ≠ w6.heap.size := (by omega); have z11 : w6.heap.size ≠ w5.heap.size := (by omega)) | (have m8 := alloc4d k6; obtain ⟨n0, n1, n2, n3, n4, n5, n6, n7⟩ := m8; have z7 : w5.heap.size + 1 ≤ w6.heap.size := (by have z8 := k6.size; simpa using z8); have z9 : w5.heap.size < w6.heap.size := (by omega); have z10 : w5.heap.size ≠ w6.heap.size := (by omega); have z11 : w6.heap.size ≠ w5.heap.size := (by omega)) | skip))
              all_goals go_wp2_with fail
              all_goals go_meet
              · exact ⟨_, _, rfl, rfl, Two.t1 k6⟩
              · exact ⟨_, _, rfl, rfl, Two.t2 k6⟩
              · exact ⟨_, _, rfl, rfl, Two.t3 k6⟩
              · exact ⟨_, _, rfl, rfl, Two.t4 k6⟩
              · exact ⟨_, _, rfl, rfl, Two.t5 k6⟩
              · exact ⟨_, _, rfl, rfl, Two.t6 k6⟩
          case rest =>
          as_aux_lemma =>
            obtain ⟨b6, b7, rfl, rfl, ht⟩ := hcut
            obtain ⟨w7, rfl⟩ : ∃ w7, w7 = wc := ⟨_, rfl⟩
            have HT : Hid (Two w5 w7 b6 b7 (.int .i64 a) (.int .i64 bb) (.int .i64 (V.fr : Int)) (.int .i64 (V.fc : Int)) (.int .i64 (V.sr : Int)) (.int .i64 (V.sc : Int))) := ht
            have HG7 : Hid (GameAt w7 qb sb lb S V) := HG5.out.on ht.kp
            have HO7 : Hid (Bx6 w7 b5 (.int .i64 kd) (.int .i64 a) (.int .i64 bb) (.int .i64 c) (.int .i64 d) (.string tx)) := HO5.out.kp ht.kp id
            have HNE : Hid (b5 ≠ lb ∧ b6 ≠ lb ∧ b7 ≠ lb ∧ qb ≠ lb) := by
              have h1 := HG.out.lay.lt
              have h2 := HB5.out.1
              have h3 := ht.n6
              have h4 := ht.n7
              have h5 := HK5.out.size
              exact ⟨by omega, by omega, by omega, HG.out.lb_ne.1⟩
            clear o1 o2 q1 ht
            as_aux_lemma =>
              have t0 := HT.out.c0
              have t1 := HT.out.c1
              have HI : Hid (∀ w', Calls Try.prog 27 #[.agg #[.int .i64 a, .int .i64 bb]] w' fun e w'' => e = .returned (.bool (inS a bb)) ∧ Kp no w' w'') := fun w' => inSheetM_at w' a bb
              go_wp2_with fail
              refine (HI.out _).mono ?_
              rintro e w8 ⟨rfl, k8⟩
              have HG8 : Hid (GameAt w8 qb sb lb S V) := HG7.out.on k8
              have HK78 : Hid (Kp no w7 w8) := k8
              have t0 := k8.cell t0 id
              have t1 := k8.cell t1 id
              clear k8
              go_upto_if 39 with fail
              go_cut [8, 9] from 39 to 92 (fun s8 _ wx => ∃ wb, s8 = .bool wb ∧ Kp (one lb) w8 wx ∧ LayAt wx lb sb S V ∧ (wb = true → ∃ R0, rectsOf S V a bb = [R0] ∧ ∃ rn cn : Nat, a = (rn : Int) ∧ bb = (cn : Int) ∧ R0.y1 - R0.y0 = (S.ht rn : Int) ∧ R0.x1 - R0.x0 = (S.wd cn : Int)))
              case first =>
                as_aux_lemma =>
                  cases hin : inS a bb with
                  | false =>
                    go_wp2_with fail
                    go_meet
                    exact ⟨false, rfl, Kp.refl _ _, HG8.out.lay, fun e => (by cases e)⟩
                  | true =>
                    obtain ⟨rn, cn, rfl, rfl, hr64, hc26⟩ := inS_nat hin
                    clear hin
                    obtain ⟨L, hL⟩ : ∃ L, rectsOf S V (rn : Int) (cn : Int) = L := ⟨_, rfl⟩
                    have HL : Hid (rectsOf S V (rn : Int) (cn : Int) = L) := hL
                    have HBD : Hid (∀ R ∈ L, 0 ≤ R.y0 ∧ R.y0 < R.y1 ∧ R.y1 ≤ 24 ∧ 0 ≤ R.x0 ∧ R.x0 < R.x1 ∧ R.x1 ≤ 80) := by
                      have h0 := rects_bounds HG8.out.ok HG8.out.vok (rn : Int) (cn : Int)
                      rw [hL] at h0
                      exact h0
                    have HL4 : Hid (L.length ≤ 4) := by
                      show _ ≤ _
                      rw [← hL]; exact rects_len S V _ _
                    have HC : Hid (∀ w', Kp no w8 w' → Calls Try.prog 13 #[.pointer (some ⟨lb, 0, none⟩), .agg #[.int .i64 (rn : Int), .int .i64 (cn : Int)]] w' fun e w'' => ∃ pp cp, e = .returned (.slice pp L.length cp) ∧ (∀ R, L = [R] → ∃ g, pp = some ⟨g, 0, none⟩ ∧ w''.cell? ⟨g, 0, none⟩ = some (.int .i64 R.y0) ∧ w''.cell? ⟨g, 1, none⟩ = some (.int .i64 R.x0) ∧ w''.cell? ⟨g, 2, none⟩ = some (.int .i64 R.y1) ∧ w''.cell? ⟨g, 3, none⟩ = some (.int .i64 R.x1)) ∧ Kp (one lb) w8 w'' ∧ LayAt w'' lb sb S V) := fun w' k' => by
                      have hg := HG8.out.on k'
                      refine (rects_at w' lb sb S V hg.sh hg.ok hg.lay hg.vok (rn : Int) (cn : Int)).mono ?_
                      rintro e w'' ⟨v, e1, e2, e3, e4⟩
                      rw [hL] at e2
                      obtain ⟨pp, cp, rfl, h5⟩ := rects_slice e2
                      exact ⟨pp, cp, e1, h5, (Kp.of_no k').trans e3, e4⟩
                    clear hL
                    have q1 := HG8.out.q1
                    go_wp2_with fail
                    go_region_held3 (fun w' => w'.cell? ⟨qb, 1, none⟩ = some (.pointer (some ⟨lb, 0, none⟩)) ∧ w'.cell? ⟨b6, 0, none⟩ = some (.int .i64 (rn : Int)) ∧ w'.cell? ⟨b6, 1, none⟩ = some (.int .i64 (cn : Int)))
                      (refine ⟨?_, ?_, ?_⟩ <;> assumption)
                      (first | (go_at_call 13; refine (HC.out _ (by first | exact (Kp.refl no _).drew | exact Kp.refl no _)).mono ?_; rintro e w9 ⟨pp, cp, rfl, hpp, k9, hL9⟩; have y1 := k9.cell q1 HNE.out.2.2.2; have y2 := k9.cell t0 HNE.out.2.1; have y3 := k9.cell t1 HNE.out.2.1))
                    all_goals
                      have HG9 : Hid (GameAt w9 qb sb lb S V) := HG8.out.call k9 hL9 HG8.out.vok
                      have HK9 : Hid (Kp (one lb) w8 w9) := k9
                      have HPP : Hid (∀ R, L = [R] → ∃ g, pp = some ⟨g, 0, none⟩ ∧ w9.cell? ⟨g, 0, none⟩ = some (.int .i64 R.y0) ∧ w9.cell? ⟨g, 1, none⟩ = some (.int .i64 R.x0) ∧ w9.cell? ⟨g, 2, none⟩ = some (.int .i64 R.y1) ∧ w9.cell? ⟨g, 3, none⟩ = some (.int .i64 R.x1)) := hpp
                      clear hpp k9 hL9 HC y1 y2 y3
                      have r0 := HG9.out.q0
                      have r1 := HK9.out.cell t0 HNE.out.2.1
                      have r2 := HK9.out.cell t1 HNE.out.2.1
                      have r3 := HG9.out.sh.ht rn hr64
                      have r4 := HG9.out.sh.wd cn hc26
                      have bh : S.ht rn ≤ 24 := (HG9.out.ok.ht rn).2
                      have bw : S.wd cn ≤ 80 := (HG9.out.ok.wd cn).2
                      have i1 : (rn : Int) < 64 := by omega
                      have i2 : (cn : Int) < 26 := by omega
                      clear t0 t1 q1
                      go_wp2_with fail
                      have s0 : ∀ p : KpOf w9, p.to.cell? ⟨qb, 0, none⟩ = some (.pointer (some ⟨sb, 0, none⟩)) := fun p => p.h.cell r0 id
                      have s1 : ∀ p : KpOf w9, p.to.cell? ⟨b6, 0, none⟩ = some (.int .i64 (rn : Int)) := fun p => p.h.cell r1 id
                      have s2 : ∀ p : KpOf w9, p.to.cell? ⟨b6, 1, none⟩ = some (.int .i64 (cn : Int)) := fun p => p.h.cell r2 id
                      have s3 : ∀ p : KpOf w9, p.to.cell? ⟨sb, 26 + rn, none⟩ = some (.int .i64 (S.ht rn : Int)) := fun p => p.h.cell r3 id
                      have s4 : ∀ p : KpOf w9, p.to.cell? ⟨sb, cn, none⟩ = some (.int .i64 (S.wd cn : Int)) := fun p => p.h.cell r4 id
                      by_cases hl1 : L.length = 1
                      · obtain ⟨R, hR⟩ := List.length_eq_one_iff.1 hl1
                        obtain ⟨g, rfl, g0, g1, g2, g3⟩ := HPP.out R hR
                        have s5 : ∀ p : KpOf w9, p.to.cell? ⟨g, 0, none⟩ = some (.int .i64 R.y0) := fun p => p.h.cell g0 id
                        have s6 : ∀ p : KpOf w9, p.to.cell? ⟨g, 1, none⟩ = some (.int .i64 R.x0) := fun p => p.h.cell g1 id
                        have s7 : ∀ p : KpOf w9, p.to.cell? ⟨g, 2, none⟩ = some (.int .i64 R.y1) := fun p => p.h.cell g2 id
                        have s8 : ∀ p : KpOf w9, p.to.cell? ⟨g, 3, none⟩ = some (.int .i64 R.x1) := fun p => p.h.cell g3 id
                        obtain ⟨d1, d2, d3, d4, d5, d6⟩ := HBD.out R (by rw [hR]; simp)
                        have HR : Hid (L = [R]) := hR
                        have x1 : IntKind.i64.wrap (R.y1 - R.y0) = R.y1 - R.y0 := by rw [IntKind.wrap_i64]; omega
                        have x2 : IntKind.i64.wrap (R.x1 - R.x0) = R.x1 - R.x0 := by rw [IntKind.wrap_i64]; omega
                        obtain ⟨e1, he1⟩ : ∃ e1, (R.y1 - R.y0 == (S.ht rn : Int)) = e1 := ⟨_, rfl⟩
                        obtain ⟨e2, he2⟩ : ∃ e2, (R.x1 - R.x0 == (S.wd cn : Int)) = e2 := ⟨_, rfl⟩
                        have HE1 : Hid ((R.y1 - R.y0 == (S.ht rn : Int)) = e1) := he1
                        have HE2 : Hid ((R.x1 - R.x0 == (S.wd cn : Int)) = e2) := he2
                        rw [hl1]
                        clear hR g0 g1 g2 g3 r0 r1 r2 r3 r4 d1 d2 d3 d4 d5 d6 hl1
                        cases e1 with
                        | false =>
                          clear he2
                          as_aux_lemma =>
                            refine wp_region_kp (by kernel_rfl) (by kernel_rfl) ?_
                            repeat (go_big_quiet_step (fail))
                            refine wpQuiet_nil ?_
                            intro _ hw'
                            obtain ⟨⟨wq, kq⟩, hw''⟩ := hw'
                            subst hw''
                            go_wp2_with fail
                            go_meet
                            exact ⟨false, rfl, HK9.out.trans (Kp.of_no kq), HG9.out.lay.on kq, fun e => (by cases e)⟩
                        | true =>
                          as_aux_lemma =>
                            refine wp_region_kp (by kernel_rfl) (by kernel_rfl) ?_
                            repeat (go_big_quiet_step (fail))
                            refine wpQuiet_nil ?_
                            intro _ hw'
                            obtain ⟨⟨wq, kq⟩, hw''⟩ := hw'
                            subst hw''
                            go_wp2_with fail
                            go_meet
                            exact ⟨e2, rfl, HK9.out.trans (Kp.of_no kq), HG9.out.lay.on kq, fun e => ⟨R, by rw [HL.out, HR.out], rn, cn, rfl, rfl, by simpa using HE1.out, by have := HE2.out; rw [e] at this; simpa using this⟩⟩
                      · have x1 : ((L.length : Int) == 1) = false := by simp; omega
                        clear r0 r1 r2 r3 r4
                        as_aux_lemma =>
                          refine wp_region_kp (by kernel_rfl) (by kernel_rfl) ?_
                          repeat (go_big_quiet_step (fail))
                          refine wpQuiet_nil ?_
                          intro _ hw'
                          obtain ⟨⟨wq, kq⟩, hw''⟩ := hw'
                          subst hw''
                          go_wp2_with fail
                          go_meet
                          exact ⟨false, rfl, HK9.out.trans (Kp.of_no kq), HG9.out.lay.on kq, fun e => (by cases e)⟩
              case rest =>
              as_aux_lemma =>
                obtain ⟨wb, rfl, k9, hL9, hwb⟩ := hcut
                obtain ⟨w9, rfl⟩ : ∃ w9, w9 = wc := ⟨_, rfl⟩
                have HWB : Hid (wb = true → ∃ R0, rectsOf S V a bb = [R0] ∧ ∃ rn cn : Nat, a = (rn : Int) ∧ bb = (cn : Int) ∧ R0.y1 - R0.y0 = (S.ht rn : Int) ∧ R0.x1 - R0.x0 = (S.wd cn : Int)) := hwb
                have HG9 : Hid (GameAt w9 qb sb lb S V) := HG8.out.call k9 hL9 HG8.out.vok
                have HO9 : Hid (Bx6 w9 b5 (.int .i64 kd) (.int .i64 a) (.int .i64 bb) (.int .i64 c) (.int .i64 d) (.string tx)) := (HO7.out.kp HK78.out id).kp k9 HNE.out.1
                have HK79 : Hid (Kp (one lb) w7 w9) := (Kp.of_no HK78.out).trans k9
                clear k9 hL9 hwb t0 t1
                as_aux_lemma =>
                  have p0 := HO9.out.c0
                  have p1 := HO9.out.c1
                  have p2 := HO9.out.c2
                  have p3 := HO9.out.c3
                  have p4 := HO9.out.c4
                  have p5 := HO9.out.c5
                  have HPC : Hid (Calls Try.prog 10 #[.pointer (some ⟨qb, 0, none⟩), .agg #[.int .i64 kd, .int .i64 a, .int .i64 bb, .int .i64 c, .int .i64 d, .string tx]] w9 (PlayPost qb sb lb S V ⟨kd, a, bb, c, d, tx⟩ w9)) := HPL.out w9 qb sb lb S V HG9.out (by have h1 := HSP.out.1; have h2 := HSS.out.1; omega) ⟨kd, a, bb, c, d, tx⟩ HTX.out
                  go_wp2_with fail
                  refine HPC.out.mono ?_
                  rintro e wt ⟨av, S', V', rfl, kt, hgt, hst', hpb', h9⟩
                  have HGT : Hid (GameAt wt qb sb lb S' V') := hgt
                  have HSP2 : Hid (S'.steps = k + 1 ∧ S'.pb = pb) := ⟨by rw [hst', HSP.out.1], by rw [hpb', HSP.out.2]⟩
                  have H9 : Hid (kd = 9 → S' = S.tick ∧ (inS a bb = false → V' = V) ∧ ∀ rn cn : Nat, a = (rn : Int) → bb = (cn : Int) → inS a bb = true → RevVw S.tick V V' rn cn) := h9
                  have HNG : Hid (∀ x, wr.heap.size ≤ x → ¬ gX sb lb S x) := fun x hx h => by
                    have := HG.out.gX_lt h
                    omega
                  have HKT : Hid (Kp no w1 wt) := by
                    have ka : Kp no w1 w7 := (HKR.out.trans HK5.out).trans HT.out.kp
                    have kb : Kp no w1 w9 := ka.trans2 HK79.out (fun j hj e => by
                      have e' : j = lb := e
                      have := HB.out.2.1
                      omega)
                    exact kb.trans2 kt (fun j hj e => by
                      have := gX_new HG9.out HB.out.1 HB.out.2.1 (by rw [HSP.out.2]; exact HB.out.2.2) e
                      omega)
                  have HBX : Hid (wr.heap.size ≤ b6 ∧ wr.heap.size ≤ b7) := by
                    have h1 := HK5.out.size
                    have h2 := HT.out.n6
                    have h3 := HT.out.n7
                    exact ⟨by omega, by omega⟩
                  have u0 := kt.cell (HK79.out.cell HT.out.c0 HNE.out.2.1) (HNG.out _ HBX.out.1)
                  have u1 := kt.cell (HK79.out.cell HT.out.c1 HNE.out.2.1) (HNG.out _ HBX.out.1)
                  have v0 := kt.cell (HK79.out.cell HT.out.d0 HNE.out.2.2.1) (HNG.out _ HBX.out.2)
                  have v1 := kt.cell (HK79.out.cell HT.out.d1 HNE.out.2.2.1) (HNG.out _ HBX.out.2)
                  have v2 := kt.cell (HK79.out.cell HT.out.d2 HNE.out.2.2.1) (HNG.out _ HBX.out.2)
                  have v3 := kt.cell (HK79.out.cell HT.out.d3 HNE.out.2.2.1) (HNG.out _ HBX.out.2)
                  have ok := kt.cell HO9.out.c0 (HNG.out _ HB5.out.1)
                  clear p0 p1 p2 p3 p4 p5 kt hgt hst' hpb' h9 HPC
                  by_cases hkd : kd = 9
                  · subst hkd
                    have HI2 : Hid (∀ w', Calls Try.prog 27 #[.agg #[.int .i64 a, .int .i64 bb]] w' fun e w'' => e = .returned (.bool (inS a bb)) ∧ Kp no w' w'') := fun w' => inSheetM_at w' a bb
                    obtain ⟨hS9, hV9, hR9⟩ := H9.out rfl
                    subst hS9
                    go_wp2_with fail
                    refine (HI2.out _).mono ?_
                    rintro e wi ⟨rfl, ki⟩
                    have HGI : Hid (GameAt wi qb sb lb S.tick V') := HGT.out.on ki
                    have HKI : Hid (Kp no w1 wi) := HKT.out.trans ki
                    have u0 := ki.cell u0 id
                    have u1 := ki.cell u1 id
                    have v0 := ki.cell v0 id
                    have v1 := ki.cell v1 id
                    have v2 := ki.cell v2 id
                    have v3 := ki.cell v3 id
                    have HRV : Hid (∀ rn cn : Nat, a = (rn : Int) → bb = (cn : Int) → inS a bb = true → RevVw S.tick V V' rn cn) := hR9
                    clear ki hV9 hR9 ok HI HI2
                    cases hin : inS a bb with
                    | false =>
                      as_aux_lemma =>
                        go_wp2_with fail
                        refine ⟨⟨_, k + 1, S.tick, V', rfl, by kernel_rfl, ⟨by kernel_rfl, by kernel_rfl, by kernel_rfl, Eq.trans (b := .int .i64 ((k : Int) + 1)) (by kernel_rfl) (by go_num), trivial⟩, by omega, HGI.out, HSP2.out, HKI.out⟩, ?_⟩
                        show n - (intOf (Value.int .i64 ((k : Int) + 1))).toNat < n - (intOf (Value.int .i64 (k : Int))).toNat
                        simp [intOf]
                        omega
                    | true =>
                      obtain ⟨rn, cn, rfl, rfl, hr64, hc26⟩ := inS_nat hin
                      have HRV2 : Hid (RevVw S.tick V V' rn cn) := HRV.out rn cn rfl rfl hin
                      clear hin
                      by_cases hfr : rn < V.fr
                      · have f1 : (rn : Int) < (V.fr : Int) := by omega
                        as_aux_lemma =>
                          go_wp2_with fail
                          refine ⟨⟨_, k + 1, S.tick, V', rfl, by kernel_rfl, ⟨by kernel_rfl, by kernel_rfl, by kernel_rfl, Eq.trans (b := .int .i64 ((k : Int) + 1)) (by kernel_rfl) (by go_num), trivial⟩, by omega, HGI.out, HSP2.out, HKI.out⟩, ?_⟩
                          show n - (intOf (Value.int .i64 ((k : Int) + 1))).toNat < n - (intOf (Value.int .i64 (k : Int))).toNat
                          simp [intOf]
                          omega
                      · have f1 : ¬ (rn : Int) < (V.fr : Int) := by omega
                        by_cases hfc : cn < V.fc
                        · have f2 : (cn : Int) < (V.fc : Int) := by omega
                          as_aux_lemma =>
                            go_wp2_with fail
                            refine ⟨⟨_, k + 1, S.tick, V', rfl, by kernel_rfl, ⟨by kernel_rfl, by kernel_rfl, by kernel_rfl, Eq.trans (b := .int .i64 ((k : Int) + 1)) (by kernel_rfl) (by go_num), trivial⟩, by omega, HGI.out, HSP2.out, HKI.out⟩, ?_⟩
                            show n - (intOf (Value.int .i64 ((k : Int) + 1))).toNat < n - (intOf (Value.int .i64 (k : Int))).toNat
                            simp [intOf]
                            omega
                        · have f2 : ¬ (cn : Int) < (V.fc : Int) := by omega
                          as_aux_lemma =>
                            go_upto_region 14 with fail
                            obtain ⟨om, hom⟩ : ∃ o, mergeAt S.mg rn cn = o := ⟨_, rfl⟩
                            obtain ⟨A, hA⟩ : ∃ A, om.getD ⟨0, 0, 0, 0⟩ = A := ⟨_, rfl⟩
                            obtain ⟨bm, hbm⟩ : ∃ b, om.isSome = b := ⟨_, rfl⟩
                            have HMG : Hid (bm = false → mergeAt S.mg rn cn = none) := fun e => by
                              rw [hom]
                              cases om with
                              | none => rfl
                              | some x => rw [← hbm] at e; cases e
                            have HCM : Hid (∀ w', Kp no wi w' → Calls Try.prog 20 #[.pointer (some ⟨sb, 0, none⟩), .agg #[.int .i64 (rn : Int), .int .i64 (cn : Int)]] w' fun e w'' => e = .returned (.tuple #[.agg #[.int .i64 (A.t : Int), .int .i64 (A.l : Int), .int .i64 (A.b : Int), .int .i64 (A.r : Int)], .bool bm]) ∧ Kp no w' w'' ∧ Kp no wi w'') := fun w' k' => by
                              refine (mergeAt_v w' sb S.tick (HGI.out.on k').sh HGI.out.ok rn cn om hom A hA bm hbm).mono ?_
                              rintro e w'' ⟨e1, e2⟩
                              exact ⟨e1, e2, k'.trans e2⟩
                            have q0 := HGI.out.q0
                            clear hom hA hbm
                            go_cut [10, 11] from 118 to 126 (fun s10 s11 wx => ∃ b10, s10 = .pointer (some ⟨b10, 0, none⟩) ∧ s11 = .bool bm ∧ VarAr wi A b10 wx)
                            case first =>
                              as_aux_lemma =>
                                go_region_held3 (fun w' => w'.cell? ⟨qb, 0, none⟩ = some (.pointer (some ⟨sb, 0, none⟩)) ∧ w'.cell? ⟨b6, 0, none⟩ = some (.int .i64 (rn : Int)) ∧ w'.cell? ⟨b6, 1, none⟩ = some (.int .i64 (cn : Int)))
                                  (refine ⟨?_, ?_, ?_⟩ <;> (first | (refine Kp.cell (X := no) (w := wi) ?_ q0 id; (repeat first | with_reducible assumption | with_reducible exact Kp.refl _ _ | with_reducible refine Kp.drew ?_ | with_reducible refine Kp.alloc ?_ _ | with_reducible refine Kp.setCell ?_ (fun h => absurd h (by first | (simp <;> omega) | omega)) _); done) | (refine Kp.cell (X := no) (w := wi) ?_ u0 id; (repeat first | with_reducible assumption | with_reducible exact Kp.refl _ _ | with_reducible refine Kp.drew ?_ | with_reducible refine Kp.alloc ?_ _ | with_reducible refine Kp.setCell ?_ (fun h => absurd h (by first | (simp <;> omega) | omega)) _); done) | (refine Kp.cell (X := no) (w := wi) ?_ u1 id; (repeat first | with_reducible assumption | with_reducible exact Kp.refl _ _ | with_reducible refine Kp.drew ?_ | with_reducible refine Kp.alloc ?_ _ | with_reducible refine Kp.setCell ?_ (fun h => absurd h (by first | (simp <;> omega) | omega)) _); done)))
                                  (first | (go_at_call 20; refine (HCM.out _ (by first | exact (Kp.refl no _).drew | exact Kp.refl no _ | exact ((Kp.refl no _).alloc _).drew)).mono ?_; rintro e wm ⟨rfl, km, kim⟩; have z6 := kim.size; first | (have m8 := alloc4d km; obtain ⟨m0, m1, m2, m3, m4, m5, m6, m7⟩ := m8; have z7 : wi.heap.size + 1 ≤ wm.heap.size := (by have z8 := km.size; simpa using z8); have z9 : wi.heap.size < wm.heap.size := (by omega); have z10 : wi.heap.size ≠ wm.heap.size := (by omega)) | skip))
                                all_goals go_wp2_with fail
                                all_goals go_meet
                                all_goals first
                                  | with_reducible exact ⟨_, rfl, rfl, VarAr.after A km⟩
                                  | exact ⟨_, rfl, rfl, VarAr.before A km⟩
                            case rest =>
                            as_aux_lemma =>
                              obtain ⟨b10, rfl, rfl, hv⟩ := hcut
                              obtain ⟨wj, rfl⟩ : ∃ wj, wj = wc := ⟨_, rfl⟩
                              have kj := hv.kp
                              have HGJ : Hid (GameAt wj qb sb lb S.tick V') := HGI.out.on kj
                              have HKJ : Hid (Kp no w1 wj) := HKI.out.trans kj
                              have u0 := kj.cell u0 id
                              have u1 := kj.cell u1 id
                              have v0 := kj.cell v0 id
                              have v1 := kj.cell v1 id
                              have v2 := kj.cell v2 id
                              have v3 := kj.cell v3 id
                              clear hv kj q0 HCM
                              have r0 := HGJ.out.q0
                              obtain ⟨xh, hxh⟩ : ∃ x, S.hr rn = x := ⟨_, rfl⟩
                              obtain ⟨xc, hxc⟩ : ∃ x, S.hc cn = x := ⟨_, rfl⟩
                              have r3 : wj.cell? ⟨sb, 90 + rn, none⟩ = some (.bool xh) := by rw [← hxh]; exact HGJ.out.sh.hr rn hr64
                              have r4 : wj.cell? ⟨sb, 154 + cn, none⟩ = some (.bool xc) := by rw [← hxc]; exact HGJ.out.sh.hc cn hc26
                              have HXH : Hid (S.hr rn = xh ∧ S.hc cn = xc) := ⟨hxh, hxc⟩
                              have i1 : (rn : Int) < 64 := by omega
                              have i2 : (cn : Int) < 26 := by omega
                              clear hxh hxc
                              go_wp2_with fail
                              go_cut [151] from 127 to 151 (fun s151 wx => s151 = .bool (bm || xh || xc) ∧ Kp no wj wx)
                              case first =>
                                as_aux_lemma =>
                                  have s0 : ∀ p : KpOf wj, p.to.cell? ⟨qb, 0, none⟩ = some (.pointer (some ⟨sb, 0, none⟩)) := fun p => p.h.cell r0 id
                                  have s1 : ∀ p : KpOf wj, p.to.cell? ⟨b6, 0, none⟩ = some (.int .i64 (rn : Int)) := fun p => p.h.cell u0 id
                                  have s2 : ∀ p : KpOf wj, p.to.cell? ⟨b6, 1, none⟩ = some (.int .i64 (cn : Int)) := fun p => p.h.cell u1 id
                                  have s3 : ∀ p : KpOf wj, p.to.cell? ⟨sb, 90 + rn, none⟩ = some (.bool xh) := fun p => p.h.cell r3 id
                                  have s4 : ∀ p : KpOf wj, p.to.cell? ⟨sb, 154 + cn, none⟩ = some (.bool xc) := fun p => p.h.cell r4 id
                                  clear u0 u1 v0 v1 v2 v3 r0 r3 r4
                                  cases bm with
                                  | true =>
                                    as_aux_lemma =>
                                      refine wp_region_kp (by kernel_rfl) (by kernel_rfl) ?_
                                      repeat (go_big_quiet_step (fail))
                                      refine wpQuiet_nil ?_
                                      intro _ hw'
                                      obtain ⟨⟨wq, kq⟩, hw''⟩ := hw'
                                      subst hw''
                                      go_wp2_with fail
                                      go_meet
                                      exact ⟨rfl, kq⟩
                                  | false =>
                                    cases xh with
                                    | true =>
                                      as_aux_lemma =>
                                        refine wp_region_kp (by kernel_rfl) (by kernel_rfl) ?_
                                        repeat (go_big_quiet_step (fail))
                                        refine wpQuiet_nil ?_
                                        intro _ hw'
                                        obtain ⟨⟨wq, kq⟩, hw''⟩ := hw'
                                        subst hw''
                                        go_wp2_with fail
                                        go_meet
                                        exact ⟨rfl, kq⟩
                                    | false =>
                                      as_aux_lemma =>
                                        refine wp_region_kp (by kernel_rfl) (by kernel_rfl) ?_
                                        repeat (go_big_quiet_step (fail))
                                        refine wpQuiet_nil ?_
                                        intro _ hw'
                                        obtain ⟨⟨wq, kq⟩, hw''⟩ := hw'
                                        subst hw''
                                        go_wp2_with fail
                                        go_meet
                                        exact ⟨rfl, kq⟩
                              case rest =>
                              as_aux_lemma =>
                                obtain ⟨rfl, kl⟩ := hcut
                                obtain ⟨wl, rfl⟩ : ∃ wl, wl = wc := ⟨_, rfl⟩
                                have HGL : Hid (GameAt wl qb sb lb S.tick V') := HGJ.out.on kl
                                have HKL : Hid (Kp no w1 wl) := HKJ.out.trans kl
                                have u0 := kl.cell u0 id
                                have u1 := kl.cell u1 id
                                have v0 := kl.cell v0 id
                                have v1 := kl.cell v1 id
                                have v2 := kl.cell v2 id
                                have v3 := kl.cell v3 id
                                obtain ⟨bz, hbz⟩ : ∃ bz, (bm || xh || xc) = bz := ⟨_, rfl⟩
                                rw [hbz]
                                have HBZ : Hid ((bm || xh || xc) = bz) := hbz
                                clear hbz kl r0 r3 r4
                                cases bz with
                                | true =>
                                  as_aux_lemma =>
                                    go_wp2_with fail
                                    refine ⟨⟨_, k + 1, S.tick, V', rfl, by kernel_rfl, ⟨by kernel_rfl, by kernel_rfl, by kernel_rfl, Eq.trans (b := .int .i64 ((k : Int) + 1)) (by kernel_rfl) (by go_num), trivial⟩, by omega, HGL.out, HSP2.out, HKL.out⟩, ?_⟩
                                    show n - (intOf (Value.int .i64 ((k : Int) + 1))).toNat < n - (intOf (Value.int .i64 (k : Int))).toNat
                                    simp [intOf]
                                    omega
                                | false =>
                                  have HM0 : Hid (mergeAt S.mg rn cn = none ∧ S.hr rn = false ∧ S.hc cn = false) := by
                                    have h0 := HBZ.out
                                    simp only [Bool.or_eq_false_iff] at h0
                                    exact ⟨HMG.out h0.1.1, by rw [HXH.out.1]; exact h0.1.2, by rw [HXH.out.2]; exact h0.2⟩
                                  have q0 := HGL.out.q0
                                  have hfr64 : V.fr < 64 := by have h1 := HG.out.vok.r; have h2 := HG.out.vok.sr; omega
                                  have hfc26 : V.fc < 26 := by have h1 := HG.out.vok.c; have h2 := HG.out.vok.sc; omega
                                  have HSB : Hid ((∀ r, sums (rowSz S) r ≤ r * 24) ∧ ∀ r, sums (colSz S) r ≤ r * 80) := ⟨sums_le _ 24 (fun i => by have := (HG.out.ok.ht i).2; unfold rowSz; split <;> omega), sums_le _ 80 (fun i => by have := (HG.out.ok.wd i).2; unfold colSz; split <;> omega)⟩
                                  clear HBZ
                                  go_wp2_with fail
                                  go_loopw [12, 14] (fun hv rv wq => ∃ r : Nat, r ≤ V.fr ∧ rv = .int .i64 (r : Int) ∧ hv = .int .i64 ((sums (rowSz S) r : Nat) : Int) ∧ wq = wl) (fun _ rv _ => V.fr - (intOf rv).toNat)
                                  case atStart => exact ⟨0, Nat.zero_le _, rfl, rfl, rfl⟩
                                  case round =>
                                    obtain ⟨r, hrl, rfl, rfl, hwq⟩ := hrel
                                    subst hwq
                                    by_cases hrt : r < V.fr
                                    · have e1 : (r : Int) < (V.fr : Int) := by omega
                                      have e2 : (r : Int) < 64 := by omega
                                      have hb : sums (rowSz S) r ≤ 1536 := by have := HSB.out.1 r; omega
                                      have c1 := HGL.out.sh.hr r (by omega)
                                      have c2 := HGL.out.sh.ht r (by omega)
                                      have hht : S.ht r ≤ 24 := (HG.out.ok.ht r).2
                                      have HSU : Hid (sums (rowSz S) (r + 1) = sums (rowSz S) r + (if S.hr r = false then S.ht r else 0)) := by
                                        show sums (rowSz S) r + rowSz S r = _
                                        unfold rowSz
                                        by_cases hx : S.hr r = false
                                        · rw [if_pos ⟨by omega, hx⟩, if_pos hx]
                                        · rw [if_neg (fun h => hx h.2), if_neg hx]
                                      have c1' : wr.cell? ⟨sb, 90 + r, none⟩ = some (.bool (S.hr r)) := c1
                                      have c2' : wr.cell? ⟨sb, 26 + r, none⟩ = some (.int .i64 (S.ht r : Int)) := c2
                                      generalize sums (rowSz S) r = H at *
                                      clear c1 c2
                                      cases hx : S.hr r with
                                      | true =>
                                        rw [hx] at c1' HSU
                                        have HSU2 : Hid (sums (rowSz S) (r + 1) = H) := by show _ = _; have := HSU.out; simpa using this
                                        clear HSU hx
                                        go_wp2_with fail
                                        refine ⟨⟨r + 1, by omega, by go_num, by rw [HSU2.out], trivial⟩, by simp [intOf]; omega⟩
                                      | false =>
                                        rw [hx] at c1' HSU
                                        have HSU2 : Hid (sums (rowSz S) (r + 1) = H + S.ht r) := by show _ = _; have := HSU.out; simpa using this
                                        clear HSU hx
                                        go_wp2_with fail
                                        refine ⟨⟨r + 1, by omega, by go_num, by rw [HSU2.out]; go_num, trivial⟩, by simp [intOf]; omega⟩
                                    · have hre : V.fr = r := by omega
                                      have e1 : ¬ (r : Int) < (V.fr : Int) := by omega
                                      obtain ⟨H, hH⟩ : ∃ H, sums (rowSz S) r = H := ⟨_, rfl⟩
                                      have HH : Hid (sums (rowSz S) V.fr = H) := by show _ = _; rw [hre]; exact hH
                                      have hHb : H ≤ 1536 := by have h0 := HSB.out.1 r; omega
                                      rw [hH]
                                      clear hH hrt
                                      go_wp2_with fail
                                      go_loopw [13, 15] (fun hv rv wq => ∃ r : Nat, r ≤ V.fc ∧ rv = .int .i64 (r : Int) ∧ hv = .int .i64 ((sums (colSz S) r : Nat) : Int) ∧ wq = wr) (fun _ rv _ => V.fc - (intOf rv).toNat)
                                      case atStart => exact ⟨0, Nat.zero_le _, rfl, rfl, rfl⟩
                                      case round =>
                                        clear hre e1 hrl
                                        obtain ⟨r, hrl, rfl, rfl, hwq⟩ := hrel
                                        subst hwq
                                        by_cases hrt : r < V.fc
                                        · have e1 : (r : Int) < (V.fc : Int) := by omega
                                          have e2 : (r : Int) < 26 := by omega
                                          have hb : sums (colSz S) r ≤ 2080 := by have := HSB.out.2 r; omega
                                          have c1 := HGL.out.sh.hc r (by omega)
                                          have c2 := HGL.out.sh.wd r (by omega)
                                          have hht : S.wd r ≤ 80 := (HG.out.ok.wd r).2
                                          have HSU : Hid (sums (colSz S) (r + 1) = sums (colSz S) r + (if S.hc r = false then S.wd r else 0)) := by
                                            show sums (colSz S) r + colSz S r = _
                                            unfold colSz
                                            by_cases hx : S.hc r = false
                                            · rw [if_pos ⟨by omega, hx⟩, if_pos hx]
                                            · rw [if_neg (fun h => hx h.2), if_neg hx]
                                          have c1' : wr.cell? ⟨sb, 154 + r, none⟩ = some (.bool (S.hc r)) := c1
                                          have c2' : wr.cell? ⟨sb, r, none⟩ = some (.int .i64 (S.wd r : Int)) := c2
                                          generalize sums (colSz S) r = H2 at *
                                          clear c1 c2
                                          cases hx : S.hc r with
                                          | true =>
                                            rw [hx] at c1' HSU
                                            have HSU2 : Hid (sums (colSz S) (r + 1) = H2) := by show _ = _; have := HSU.out; simpa using this
                                            clear HSU hx
                                            go_wp2_with fail
                                            refine ⟨⟨r + 1, by omega, by go_num, by rw [HSU2.out], trivial⟩, by simp [intOf]; omega⟩
                                          | false =>
                                            rw [hx] at c1' HSU
                                            have HSU2 : Hid (sums (colSz S) (r + 1) = H2 + S.wd r) := by show _ = _; have := HSU.out; simpa using this
                                            clear HSU hx
                                            go_wp2_with fail
                                            refine ⟨⟨r + 1, by omega, by go_num, by rw [HSU2.out]; go_num, trivial⟩, by simp [intOf]; omega⟩
                                        · have hre : V.fc = r := by omega
                                          have e1 : ¬ (r : Int) < (V.fc : Int) := by omega
                                          obtain ⟨Wd, hWd⟩ : ∃ H, sums (colSz S) r = H := ⟨_, rfl⟩
                                          have HWD : Hid (sums (colSz S) V.fc = Wd) := by show _ = _; rw [hre]; exact hWd
                                          have hWb : Wd ≤ 2080 := by have h0 := HSB.out.2 r; omega
                                          rw [hWd]
                                          clear hWd hrt
                                          by_cases g24 : 24 ≤ H
                                          · have g1 : (24 : Int) ≤ (H : Int) := by omega
                                            as_aux_lemma =>
                                              go_wp2_with fail
                                              refine ⟨⟨_, k + 1, S.tick, V', rfl, by kernel_rfl, ⟨by kernel_rfl, by kernel_rfl, by kernel_rfl, Eq.trans (b := .int .i64 ((k : Int) + 1)) (by kernel_rfl) (by go_num), trivial⟩, by omega, HGL.out, HSP2.out, HKL.out⟩, ?_⟩
                                              show n - (intOf (Value.int .i64 ((k : Int) + 1))).toNat < n - (intOf (Value.int .i64 (k : Int))).toNat
                                              simp [intOf]
                                              omega
                                          · have g1 : ¬ (24 : Int) ≤ (H : Int) := by omega
                                            by_cases g80 : 80 ≤ Wd
                                            · have g2 : (80 : Int) ≤ (Wd : Int) := by omega
                                              as_aux_lemma =>
                                                go_wp2_with fail
                                                refine ⟨⟨_, k + 1, S.tick, V', rfl, by kernel_rfl, ⟨by kernel_rfl, by kernel_rfl, by kernel_rfl, Eq.trans (b := .int .i64 ((k : Int) + 1)) (by kernel_rfl) (by go_num), trivial⟩, by omega, HGL.out, HSP2.out, HKL.out⟩, ?_⟩
                                                show n - (intOf (Value.int .i64 ((k : Int) + 1))).toNat < n - (intOf (Value.int .i64 (k : Int))).toNat
                                                simp [intOf]
                                                omega
                                            · have g2 : ¬ (80 : Int) ≤ (Wd : Int) := by omega
                                              as_aux_lemma =>
                                                obtain ⟨R, hR, hRy, hRx, hRw⟩ := rev_law (S := S.tick) (V := V) (V' := V') HGI.out.ok HG.out.vok HGI.out.vok hr64 hc26 HM0.out.1 (by omega) (by omega) HM0.out.2.1 HM0.out.2.2 (show sums (rowSz S) V.fr < 24 by rw [HH.out]; omega) (show sums (colSz S) V.fc < 80 by rw [HWD.out]; omega) HRV2.out
                                                have HR : Hid (rectsOf S.tick V' (rn : Int) (cn : Int) = [R]) := hR
                                                have HRY : Hid (R.y1 - R.y0 = (S.ht rn : Int) ∨ (V'.sr = rn ∧ R.y0 = (H : Int))) := by
                                                  rcases hRy with h | h
                                                  · exact Or.inl h
                                                  · exact Or.inr ⟨h.1, by rw [← HH.out]; exact h.2⟩
                                                have HRX : Hid (R.x1 - R.x0 = (S.wd cn : Int) ∨ (V'.sc = cn ∧ R.x0 = (Wd : Int))) := by
                                                  rcases hRx with h | h
                                                  · exact Or.inl h
                                                  · exact Or.inr ⟨h.1, by rw [← HWD.out]; exact h.2⟩
                                                have HRW : Hid (wb = true → V' = V) := fun e => by
                                                  obtain ⟨R0, h1, rn', cn', h2, h3, h4, h5⟩ := HWB.out e
                                                  have e1 : rn' = rn := by omega
                                                  have e2 : cn' = cn := by omega
                                                  subst e1 e2
                                                  exact hRw R0 h1 h4 h5
                                                have HBD : Hid (0 ≤ R.y0 ∧ R.y0 < R.y1 ∧ R.y1 ≤ 24 ∧ 0 ≤ R.x0 ∧ R.x0 < R.x1 ∧ R.x1 ≤ 80) := rects_bounds HGI.out.ok HGI.out.vok _ _ R (by rw [hR]; simp)
                                                clear hR hRy hRx hRw
                                                have q1 := HGL.out.q1
                                                go_upto_region 28 with fail
                                                clear e1 hre hrl g1 g2
                                                go_cut [16, 17] from 212 to 222 (fun s16 s17 wx => ∃ b16 g cp, s16 = .pointer (some ⟨b16, 0, none⟩) ∧ s17 = .slice (some ⟨g, 0, none⟩) 1 cp ∧ Aft wr wx qb sb lb S.tick V' b16 g R)
                                                case first =>
                                                  as_aux_lemma =>
                                                    have hg0 : Hid (Gm wr wr qb sb lb S.tick V') := ⟨HGL.out, Kp.refl _ _⟩
                                                    have HV2 : Hid (∀ w', Gm wr w' qb sb lb S.tick V' → Calls Try.prog 12 #[.pointer (some ⟨lb, 0, none⟩)] w' fun e w'' => e = .returned (.agg #[.int .i64 (V'.fr : Int), .int .i64 (V'.fc : Int), .int .i64 (V'.sr : Int), .int .i64 (V'.sc : Int)]) ∧ Kp no w' w'' ∧ Gm wr w'' qb sb lb S.tick V') := fun w' hg => by
                                                      refine (view_at w' lb sb S.tick V' hg.g.lay).mono ?_
                                                      rintro e w'' ⟨e1, e2⟩
                                                      exact ⟨e1, e2, hg.on e2⟩
                                                    have HC2 : Hid (∀ w', Gm wr w' qb sb lb S.tick V' → Calls Try.prog 13 #[.pointer (some ⟨lb, 0, none⟩), .agg #[.int .i64 (rn : Int), .int .i64 (cn : Int)]] w' fun e w'' => ∃ g cp, e = .returned (.slice (some ⟨g, 0, none⟩) 1 cp) ∧ R4 w'' g R ∧ w'.heap.size ≤ g ∧ Kp (one lb) w' w'' ∧ Gm wr w'' qb sb lb S.tick V') := fun w' hg => by
                                                      refine (rects_at w' lb sb S.tick V' hg.g.sh hg.g.ok hg.g.lay hg.g.vok (rn : Int) (cn : Int)).mono ?_
                                                      rintro e w'' ⟨v, e1, e2, e3, e4⟩
                                                      rw [HR.out] at e2
                                                      obtain ⟨pp, cp, rfl, h5⟩ := rects_slice e2
                                                      obtain ⟨g, rfl, c0, c1, c2, c3⟩ := h5 R rfl
                                                      exact ⟨g, cp, e1, ⟨c0, c1, c2, c3⟩, (e2.lt g rfl).1, e3, hg.g.call e3 e4 hg.g.vok, hg.kp.trans e3⟩
                                                    have HN6 : Hid (b6 ≠ lb) := HNE.out.2.1
                                                    have HNQ : Hid (qb ≠ lb) := HNE.out.2.2.2
                                                    clear v0 v1 v2 v3 q0
                                                    go_region_held3 (fun w' => w'.cell? ⟨qb, 1, none⟩ = some (.pointer (some ⟨lb, 0, none⟩)) ∧ w'.cell? ⟨b6, 0, none⟩ = some (.int .i64 (rn : Int)) ∧ w'.cell? ⟨b6, 1, none⟩ = some (.int .i64 (cn : Int)))
                                                      (first | exact hS9 | with_reducible exact ⟨kk.cell q1 HNQ.out, kk.cell u0 HN6.out, kk.cell u1 HN6.out⟩ | with_reducible exact ⟨(kk.alloc _).cell q1 HNQ.out, (kk.alloc _).cell u0 HN6.out, (kk.alloc _).cell u1 HN6.out⟩ | refine ⟨?_, ?_, ?_⟩ <;> (first | (refine Kp.cell (X := one lb) (w := wr) ?_ q1 HNQ.out; (repeat first | with_reducible assumption | with_reducible exact Kp.refl _ _ | with_reducible refine Kp.drew ?_ | with_reducible refine Kp.alloc ?_ _ | with_reducible refine Kp.setCell ?_ (fun h => absurd h (by first | (simp <;> omega) | omega)) _); done) | (refine Kp.cell (X := one lb) (w := wr) ?_ u0 HN6.out; (repeat first | with_reducible assumption | with_reducible exact Kp.refl _ _ | with_reducible refine Kp.drew ?_ | with_reducible refine Kp.alloc ?_ _ | with_reducible refine Kp.setCell ?_ (fun h => absurd h (by first | (simp <;> omega) | omega)) _); done) | (refine Kp.cell (X := one lb) (w := wr) ?_ u1 HN6.out; (repeat first | with_reducible assumption | with_reducible exact Kp.refl _ _ | with_reducible refine Kp.drew ?_ | with_reducible refine Kp.alloc ?_ _ | with_reducible refine Kp.setCell ?_ (fun h => absurd h (by first | (simp <;> omega) | omega)) _); done)))
                                                      (first | (go_at_call 12; refine (HV2.out _ (by first | with_reducible exact hgc.out | with_reducible exact hgc.out.alloc _ | with_reducible exact hg0.out.drew | with_reducible exact (hg0.out.alloc _).drew)).mono ?_; rintro e wv ⟨rfl, kv, hgv⟩; have s1 := kv.size; (try simp at s1); (first | (have hz := Z4.kp hz kv id) | (have hz := Z4.kp (Z4.drew (Z4.made _ _)) kv id) | (have hz := Z4.kp (Z4.made _ _) kv id) | skip); (first | (have m0 := hz.c0; have m1 := hz.c1; have m2 := hz.c2; have m3 := hz.c3; have mf0 := hz.free 0; have mf1 := hz.free 1; have mf2 := hz.free 2; have mf3 := hz.free 3; have mlt := hz.lt) | skip); (first | (have hBg := Nat.ne_of_gt (cell_lt hrr.c0); have hrr := R4.kp (R4.kp hrr ((Kp.refl no _).alloc _) id) kv id) | (have hrr := R4.kp hrr kv id) | skip); have hgc : Hid (Gm wr wv qb sb lb S.tick V') := hgv; have kk := hgv.kp; have zz := kk.size; have hS9 : wv.cell? ⟨qb, 1, none⟩ = some (.pointer (some ⟨lb, 0, none⟩)) ∧ wv.cell? ⟨b6, 0, none⟩ = some (.int .i64 (rn : Int)) ∧ wv.cell? ⟨b6, 1, none⟩ = some (.int .i64 (cn : Int)) := ⟨kk.cell q1 HNQ.out, kk.cell u0 HN6.out, kk.cell u1 HN6.out⟩; clear hgv) | (go_at_call 13; refine (HC2.out _ (by first | with_reducible exact hgc.out | with_reducible exact hgc.out.alloc _ | with_reducible exact hg0.out.drew | with_reducible exact (hg0.out.alloc _).drew)).mono ?_; rintro e wv ⟨g, cp, rfl, hrr, hgg, kv, hgv⟩; have s1 := kv.size; (try simp at s1); have hg2 := hgg; (try simp at hg2); (first | (have hz := Z4.kp hz kv (by intro e; have e' : _ = lb := e; have h1 := hg0.out.g.lay.lt; omega)) | (have hz := Z4.kp (Z4.drew (Z4.made _ _)) kv (by intro e; have e' : _ = lb := e; have h1 := hg0.out.g.lay.lt; omega)) | (have hz := Z4.kp (Z4.made _ _) kv (by intro e; have e' : _ = lb := e; have h1 := hg0.out.g.lay.lt; omega)) | skip); (first | (have m0 := hz.c0; have m1 := hz.c1; have m2 := hz.c2; have m3 := hz.c3; have mf0 := hz.free 0; have mf1 := hz.free 1; have mf2 := hz.free 2; have mf3 := hz.free 3; have mlt := hz.lt) | skip); have hgc : Hid (Gm wr wv qb sb lb S.tick V') := hgv; have kk := hgv.kp; have zz := kk.size; have hS9 : wv.cell? ⟨qb, 1, none⟩ = some (.pointer (some ⟨lb, 0, none⟩)) ∧ wv.cell? ⟨b6, 0, none⟩ = some (.int .i64 (rn : Int)) ∧ wv.cell? ⟨b6, 1, none⟩ = some (.int .i64 (cn : Int)) := ⟨kk.cell q1 HNQ.out, kk.cell u0 HN6.out, kk.cell u1 HN6.out⟩; clear hgv))
                                                    all_goals go_wp2_with fail
                                                    all_goals go_meet
                                                    all_goals first
                                                      | with_reducible exact ⟨_, g, cp, rfl, rfl, Aft.last hgc.out hrr _⟩
                                                      | exact ⟨_, g, cp, rfl, rfl, Aft.put HGL.out.sh hgc.out hrr hz (by omega) (by first | assumption | omega)⟩
                                                case rest =>
                                                as_aux_lemma =>
                                                  obtain ⟨b16, g, cp, rfl, rfl, ha⟩ := hcut
                                                  obtain ⟨wm, rfl⟩ : ∃ wm, wm = wc := ⟨_, rfl⟩
                                                  have HA : Hid (Aft wr wm qb sb lb S.tick V' b16 g R) := ha
                                                  have HGM : Hid (GameAt wm qb sb lb S.tick V') := ha.gm.g
                                                  have HKM : Hid (Kp no w1 wm) := HKL.out.trans2 ha.gm.kp (fun j hj e => by
                                                    have e' : j = lb := e
                                                    have := HB.out.2.1
                                                    omega)
                                                  have a0 := ha.c0
                                                  have a1 := ha.c1
                                                  have a2 := ha.c2
                                                  have a3 := ha.c3
                                                  have d0 := ha.gm.kp.cell v0 HNE.out.2.2.1
                                                  have d1 := ha.gm.kp.cell v1 HNE.out.2.2.1
                                                  have d2 := ha.gm.kp.cell v2 HNE.out.2.2.1
                                                  have d3 := ha.gm.kp.cell v3 HNE.out.2.2.1
                                                  have c0 := ha.gm.kp.cell u0 HNE.out.2.1
                                                  have c1 := ha.gm.kp.cell u1 HNE.out.2.1
                                                  clear ha q1 q0 u0 u1 v0 v1 v2 v3
                                                  obtain ⟨bd, hbd⟩ : ∃ bd, (!(((V'.fr : Int) == (V.fr : Int)) && ((V'.fc : Int) == (V.fc : Int)) && ((V'.sr : Int) == (V.sr : Int)) && ((V'.sc : Int) == (V.sc : Int)))) = bd := ⟨_, rfl⟩
                                                  have hneq : ∀ W : World, (binOp .neq 44 (.agg #[.int .i64 (V'.fr : Int), .int .i64 (V'.fc : Int), .int .i64 (V'.sr : Int), .int .i64 (V'.sc : Int)]) (.agg #[.int .i64 (V.fr : Int), .int .i64 (V.fc : Int), .int .i64 (V.sr : Int), .int .i64 (V.sc : Int)])).run Try.prog W = .ok (.bool bd) W := fun W => by rw [← hbd]; exact neq44 _ _ _ _ _ _ _ _ W
                                                  have HBD2 : Hid (wb = true → bd = false) := fun e => by rw [← hbd, HRW.out e]; simp
                                                  clear hbd
                                                  have HWD2 : Hid ((wb && bd) = false) := by
                                                    show _ = _
                                                    cases wb with
                                                    | false => rfl
                                                    | true => rw [HBD2.out rfl]; rfl
                                                  go_upto_region 29 with fail
                                                  go_cut [233] from 223 to 233 (fun s233 wx => s233 = .bool false ∧ wx = wm)
                                                  case first =>
                                                    as_aux_lemma =>
                                                      cases wb with
                                                      | true =>
                                                        obtain rfl : bd = false := HBD2.out rfl
                                                        go_wp2_with fail
                                                        go_meet
                                                        exact ⟨rfl, rfl⟩
                                                      | false =>
                                                        go_wp2_with fail
                                                        go_meet
                                                        exact ⟨rfl, rfl⟩
                                                  case rest =>
                                                  obtain ⟨rfl, hww⟩ := hcut
                                                  obtain rfl := hww.symm
                                                  go_upto_region 31 with fail
                                                  clear hneq a0 a1 d0 d1 d2 d3
                                                  as_aux_lemma =>
                                                    have g0 := HA.out.rc.c0
                                                    have g1 := HA.out.rc.c1
                                                    have g2 := HA.out.rc.c2
                                                    have g3 := HA.out.rc.c3
                                                    have r0 := HGM.out.q0
                                                    have r3 : wm.cell? ⟨sb, 26 + rn, none⟩ = some (.int .i64 (S.ht rn : Int)) := HGM.out.sh.ht rn hr64
                                                    have r4 : wm.cell? ⟨sb, cn, none⟩ = some (.int .i64 (S.wd cn : Int)) := HGM.out.sh.wd cn hc26
                                                    have i1 : (rn : Int) < 64 := by omega
                                                    have i2 : (cn : Int) < 26 := by omega
                                                    obtain ⟨b1, b2, b3, b4, b5', b6'⟩ := HBD.out
                                                    have x1 : IntKind.i64.wrap (R.y1 - R.y0) = R.y1 - R.y0 := by rw [IntKind.wrap_i64]; omega
                                                    have x2 : IntKind.i64.wrap (R.x1 - R.x0) = R.x1 - R.x0 := by rw [IntKind.wrap_i64]; omega
                                                    go_cut [268] from 234 to 268 (fun s268 wx => s268 = .bool false ∧ Kp no wm wx)
                                                    case first =>
                                                      as_aux_lemma =>
                                                        have s0 : ∀ p : KpOf wm, p.to.cell? ⟨qb, 0, none⟩ = some (.pointer (some ⟨sb, 0, none⟩)) := fun p => p.h.cell r0 id
                                                        have s1 : ∀ p : KpOf wm, p.to.cell? ⟨b6, 0, none⟩ = some (.int .i64 (rn : Int)) := fun p => p.h.cell c0 id
                                                        have s3 : ∀ p : KpOf wm, p.to.cell? ⟨sb, 26 + rn, none⟩ = some (.int .i64 (S.ht rn : Int)) := fun p => p.h.cell r3 id
                                                        have s5 : ∀ p : KpOf wm, p.to.cell? ⟨g, 0, none⟩ = some (.int .i64 R.y0) := fun p => p.h.cell g0 id
                                                        have s7 : ∀ p : KpOf wm, p.to.cell? ⟨g, 2, none⟩ = some (.int .i64 R.y1) := fun p => p.h.cell g2 id
                                                        have s9 : ∀ p : KpOf wm, p.to.cell? ⟨b16, 2, none⟩ = some (.int .i64 (V'.sr : Int)) := fun p => p.h.cell a2 id
                                                        clear g0 g1 g2 g3 r0 r3 r4 c0 c1 a2 a3 b1 b2 b3 b4 b5' b6'
                                                        by_cases hy : R.y1 - R.y0 = (S.ht rn : Int)
                                                        · have y1 : (R.y1 - R.y0 != (S.ht rn : Int)) = false := by simp [hy]
                                                          clear hy
                                                          as_aux_lemma =>
                                                            refine wp_region_kp (by kernel_rfl) (by kernel_rfl) ?_
                                                            repeat (go_big_quiet_step (fail))
                                                            refine wpQuiet_nil ?_
                                                            intro _ hw'
                                                            obtain ⟨⟨wq, kq⟩, hw''⟩ := hw'
                                                            subst hw''
                                                            go_wp2_with fail
                                                            go_meet
                                                            exact ⟨rfl, kq⟩
                                                        · have y1 : (R.y1 - R.y0 != (S.ht rn : Int)) = true := by simp [hy]
                                                          obtain ⟨hz1, hz2⟩ : V'.sr = rn ∧ R.y0 = (H : Int) := HRY.out.resolve_left hy
                                                          have y2 : ((V'.sr : Int) != (rn : Int)) = false := by simp [hz1]
                                                          have y3 : (R.y0 != (H : Int)) = false := by simp [hz2]
                                                          clear hy hz1 hz2
                                                          as_aux_lemma =>
                                                            refine wp_region_kp (by kernel_rfl) (by kernel_rfl) ?_
                                                            repeat (go_big_quiet_step (fail))
                                                            refine wpQuiet_nil ?_
                                                            intro _ hw'
                                                            obtain ⟨⟨wq, kq⟩, hw''⟩ := hw'
                                                            subst hw''
                                                            go_wp2_with fail
                                                            go_meet
                                                            exact ⟨rfl, kq⟩
                                                    case rest =>
                                                    as_aux_lemma =>
                                                      obtain ⟨rfl, kn⟩ := hcut
                                                      obtain ⟨wn, rfl⟩ : ∃ wn, wn = wc := ⟨_, rfl⟩
                                                      have HGN : Hid (GameAt wn qb sb lb S.tick V') := HGM.out.on kn
                                                      have HKN : Hid (Kp no w1 wn) := HKM.out.trans kn
                                                      have g1 := kn.cell g1 id
                                                      have g3 := kn.cell g3 id
                                                      have r0 := kn.cell r0 id
                                                      have r4 := kn.cell r4 id
                                                      have c1 := kn.cell c1 id
                                                      have a3 := kn.cell a3 id
                                                      clear g0 g2 r3 c0 a2 kn b1 b2 b3 b4 b5' b6'
                                                      go_wp2_with fail
                                                      go_cut [303] from 269 to 303 (fun s303 wx => s303 = .bool false ∧ Kp no wn wx)
                                                      case first =>
                                                        as_aux_lemma =>
                                                          have s0 : ∀ p : KpOf wn, p.to.cell? ⟨qb, 0, none⟩ = some (.pointer (some ⟨sb, 0, none⟩)) := fun p => p.h.cell r0 id
                                                          have s1 : ∀ p : KpOf wn, p.to.cell? ⟨b6, 1, none⟩ = some (.int .i64 (cn : Int)) := fun p => p.h.cell c1 id
                                                          have s3 : ∀ p : KpOf wn, p.to.cell? ⟨sb, cn, none⟩ = some (.int .i64 (S.wd cn : Int)) := fun p => p.h.cell r4 id
                                                          have s5 : ∀ p : KpOf wn, p.to.cell? ⟨g, 1, none⟩ = some (.int .i64 R.x0) := fun p => p.h.cell g1 id
                                                          have s7 : ∀ p : KpOf wn, p.to.cell? ⟨g, 3, none⟩ = some (.int .i64 R.x1) := fun p => p.h.cell g3 id
                                                          have s9 : ∀ p : KpOf wn, p.to.cell? ⟨b16, 3, none⟩ = some (.int .i64 (V'.sc : Int)) := fun p => p.h.cell a3 id
                                                          clear g1 g3 r0 r4 c1 a3
                                                          by_cases hy : R.x1 - R.x0 = (S.wd cn : Int)
                                                          · have y1 : (R.x1 - R.x0 != (S.wd cn : Int)) = false := by simp [hy]
                                                            clear hy
                                                            as_aux_lemma =>
                                                              refine wp_region_kp (by kernel_rfl) (by kernel_rfl) ?_
                                                              repeat (go_big_quiet_step (fail))
                                                              refine wpQuiet_nil ?_
                                                              intro _ hw'
                                                              obtain ⟨⟨wq, kq⟩, hw''⟩ := hw'
                                                              subst hw''
                                                              go_wp2_with fail
                                                              go_meet
                                                              exact ⟨rfl, kq⟩
                                                          · have y1 : (R.x1 - R.x0 != (S.wd cn : Int)) = true := by simp [hy]
                                                            obtain ⟨hz1, hz2⟩ : V'.sc = cn ∧ R.x0 = (Wd : Int) := HRX.out.resolve_left hy
                                                            have y2 : ((V'.sc : Int) != (cn : Int)) = false := by simp [hz1]
                                                            have y3 : (R.x0 != (Wd : Int)) = false := by simp [hz2]
                                                            clear hy hz1 hz2
                                                            as_aux_lemma =>
                                                              refine wp_region_kp (by kernel_rfl) (by kernel_rfl) ?_
                                                              repeat (go_big_quiet_step (fail))
                                                              refine wpQuiet_nil ?_
                                                              intro _ hw'
                                                              obtain ⟨⟨wq, kq⟩, hw''⟩ := hw'
                                                              subst hw''
                                                              go_wp2_with fail
                                                              go_meet
                                                              exact ⟨rfl, kq⟩
                                                      case rest =>
                                                      as_aux_lemma =>
                                                        obtain ⟨rfl, kz⟩ := hcut
                                                        obtain ⟨wz, rfl⟩ : ∃ wz, wz = wc := ⟨_, rfl⟩
                                                        have HGZ : Hid (GameAt wz qb sb lb S.tick V') := HGN.out.on kz
                                                        have HKZ : Hid (Kp no w1 wz) := HKN.out.trans kz
                                                        clear g1 g3 r0 r4 c1 a3 kz
                                                        go_wp2_with fail
                                                        refine ⟨⟨_, k + 1, S.tick, V', rfl, by kernel_rfl, ⟨by kernel_rfl, by kernel_rfl, by kernel_rfl, Eq.trans (b := .int .i64 ((k : Int) + 1)) (by kernel_rfl) (by go_num), trivial⟩, by omega, HGZ.out, HSP2.out, HKZ.out⟩, ?_⟩
                                                        show n - (intOf (Value.int .i64 ((k : Int) + 1))).toNat < n - (intOf (Value.int .i64 (k : Int))).toNat
                                                        simp [intOf]
                                                        omega
                  · have g9 : (kd != 9) = true := by simp [hkd]
                    as_aux_lemma =>
                      go_wp2_with fail
                      refine ⟨⟨_, k + 1, S', V', rfl, by kernel_rfl, ⟨by kernel_rfl, by kernel_rfl, by kernel_rfl, Eq.trans (b := .int .i64 ((k : Int) + 1)) (by kernel_rfl) (by go_num), trivial⟩, by omega, HGT.out, HSP2.out, HKT.out⟩, ?_⟩
                      show n - (intOf (Value.int .i64 ((k : Int) + 1))).toNat < n - (intOf (Value.int .i64 (k : Int))).toNat
                      simp [intOf]
                      omega
      · have i0 : ¬ (k : Int) < (n : Int) := by omega
        go_wp2_with fail
        go_ret
        exact ⟨rfl, kr⟩
end Go.Proofs.Qxb6500653a
