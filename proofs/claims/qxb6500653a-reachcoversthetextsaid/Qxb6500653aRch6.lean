/-
  ReachCoversTheText (6): the walk.
-/
import Derived.Test.Qxb6500653aPlayOk
import Derived.Test.Qxb6500653aNewP
import Derived.Test.Qxb6500653aScript
import Derived.Test.Qxb6500653aRchPre
import Derived.Test.Qxb6500653aPlay13
import Derived.Test.Qxb6500653aKq
namespace Go.Proofs.Qxb6500653a
open Go.RowKit Go.ChangeMaps

theorem FrameAt.lcs {w : World} {fb : Nat} {F : Nat → Nat → Spot} (h : FrameAt w fb F) {y : Nat} (hy : y < 24) : ∃ cs : List Value, cs.length = 560 ∧ w.rangeAt fb (y * 560) cs ∧ ∀ x : Nat, x < 80 → ∀ Z : World, (Instr.index 53 (.agg cs.toArray) (.int .i64 (x : Int))).run Try.prog Z =
    .ok (.agg #[.bool (F y x).own, .int .i64 ((F y x).oR : Int), .int .i64 ((F y x).oC : Int), .bool (F y x).drawn, .int .i64 ((F y x).fR : Int), .int .i64 ((F y x).fC : Int), .int .u8 ((F y x).ch : Int)]) Z :=
  ⟨lcells (F y), lcells_len _, line_range h hy, fun _ hx Z => run_index53 (F y) hx Z⟩

set_option maxRecDepth 100000 in
set_option maxHeartbeats 400000000 in
theorem rch_some (hdr : DrawRowOk) (hpl : PlayOk) (W : World) (b off n cap : Nat) (D : Nat → Od) (hn : n ≤ 140737488351232) (hsm : Calls Try.prog 8 #[.slice (some ⟨b, off, none⟩) n cap] W (SmallPost n D W)) (hD : ∀ i, i < n → OpAt W b (off + i * 6) (D i)) :
    Calls Try.prog 6 #[.slice (some ⟨b, off, none⟩) n cap] W fun e w' => e = .returned (.bool true) ∧ Kp no W w' := by
  have HPL : Hid PlayOk := hpl
  have HD : Hid (∀ i, i < n → OpAt W b (off + i * 6) (D i)) := hD
  have HSM : Hid (Calls Try.prog 8 #[.slice (some ⟨b, off, none⟩) n cap] W (SmallPost n D W)) := hsm
  have HDR : Hid DrawRowOk := hdr
  clear hpl hD hsm hdr
  go_enter Try.func6, Try.ntmps6
  go_wp2_with fail
  refine HSM.out.mono ?_
  rintro e w1 ⟨r, rfl, hw1, hr⟩
  subst hw1
  cases r with
  | false =>
    go_wp2_with fail
    go_ret
    exact ⟨rfl, Kp.refl _ _⟩
  | true =>
    have HSS : Hid (SmallS n D) := hr rfl
    clear hr
    go_wp2_with fail
    refine (newPlayer_n w1).mono ?_
    rintro e w2 ⟨qb, sb, lb, pb, rfl, k2, hg2, hb1, hb2, hb3⟩
    have HB : Hid (w1.heap.size ≤ sb ∧ w1.heap.size ≤ lb ∧ w1.heap.size ≤ pb) := ⟨hb1, hb2, hb3⟩
    have HG2 : Hid (GameAt w2 qb sb lb (Sh.new pb) ⟨0, 0, 0, 0⟩) := hg2
    have HK2 : Hid (Kp no w1 w2) := k2
    clear hb1 hb2 hb3 hg2 k2
    go_wp2_with fail
    go_loopw [22] (fun kv wr => ∃ (k : Nat) (S : Sh) (V : Vw), k ≤ n ∧ kv = .int .i64 (k : Int) ∧ Hid (GameAt wr qb sb lb S V) ∧ Hid (S.steps = k ∧ S.pb = pb) ∧ Kp no w1 wr) (fun kv _ => n - (intOf kv).toNat)
    case atStart => exact ⟨0, _, _, Nat.zero_le _, rfl, HG2, ⟨rfl, rfl⟩, HK2.out⟩
    case round =>
      obtain ⟨k, S, V, hk, rfl, HG, HSP, kr⟩ := hrel
      by_cases hlt : k < n
      · obtain ⟨o, ho⟩ : ∃ o, D k = o := ⟨_, rfl⟩
        have HO : Hid (OpAt wr b (off + k * 6) o) := by
          show OpAt _ _ _ _
          rw [← ho]
          have h0 := HD.out k hlt
          exact ⟨kr.cell h0.c0 id, kr.cell h0.c1 id, kr.cell h0.c2 id, kr.cell h0.c3 id, kr.cell h0.c4 id, kr.cell h0.c5 id, h0.max, h0.wa, h0.wb, h0.wc, h0.wd⟩
        have HTX : Hid (o.text.size ≤ 65536) := by show _ ≤ _; rw [← ho]; exact HSS.out.2 k hlt
        obtain ⟨kd, a, bb, c, d, tx⟩ := o
        have c0 := HO.out.c0
        have c1 := HO.out.c1
        have c2 := HO.out.c2
        have c3 := HO.out.c3
        have c4 := HO.out.c4
        have c5 := HO.out.c5
        obtain ⟨w5, hw5⟩ : ∃ w5, w5 = wr.alloc (.cells #[.int .i64 kd, .int .i64 a, .int .i64 bb, .int .i64 c, .int .i64 d, .string tx] 28) := ⟨_, rfl⟩
        obtain ⟨b5, hb5⟩ : ∃ b5, b5 = wr.heap.size := ⟨_, rfl⟩
        have HO5 : Hid (Bx6 w5 b5 (.int .i64 kd) (.int .i64 a) (.int .i64 bb) (.int .i64 c) (.int .i64 d) (.string tx)) := by
          show Bx6 _ _ _ _ _ _ _ _
          rw [hw5, hb5]; exact Bx6.made wr _ _ _ _ _ _ 28
        have HK5 : Hid (Kp no wr w5) := by show Kp _ _ _; rw [hw5]; exact (Kp.refl no wr).alloc _
        have HG5 : Hid (GameAt w5 qb sb lb S V) := HG.out.on HK5.out
        have HB5 : Hid (wr.heap.size ≤ b5 ∧ b5 < w5.heap.size) := ⟨by omega, cell_lt HO5.out.c0⟩
        have HKR : Hid (Kp no w1 wr) := kr
        clear ho kr
        go_upto_region 7 with fail
        rw [← hw5, ← hb5]
        clear hw5 hb5 c0 c1 c2 c3 c4 c5
        have q1 := HG5.out.q1
        as_aux_lemma =>
          have p0 := HO5.out.c0
          have p1 := HO5.out.c1
          have p2 := HO5.out.c2
          have p3 := HO5.out.c3
          have p4 := HO5.out.c4
          have p5 := HO5.out.c5
          clear q1
          have HPC : Hid (Calls Try.prog 10 #[.pointer (some ⟨qb, 0, none⟩), .agg #[.int .i64 kd, .int .i64 a, .int .i64 bb, .int .i64 c, .int .i64 d, .string tx]] w5 (PlayPost qb sb lb S V ⟨kd, a, bb, c, d, tx⟩ w5)) := HPL.out w5 qb sb lb S V HG5.out (by have h1 := HSP.out.1; have h2 := HSS.out.1; omega) ⟨kd, a, bb, c, d, tx⟩ HTX.out
          go_wp2_with fail
          refine HPC.out.mono ?_
          rintro e wt ⟨av, S', V', rfl, kt, hgt, hst', hpb', _⟩
          have HGT : Hid (GameAt wt qb sb lb S' V') := hgt
          have HSP2 : Hid (S'.steps = k + 1 ∧ S'.pb = pb) := ⟨by rw [hst', HSP.out.1], by rw [hpb', HSP.out.2]⟩
          have HKT : Hid (Kp no w1 wt) := by
            have ka : Kp no w1 w5 := HKR.out.trans HK5.out
            exact ka.trans2 kt (fun j hj e => by
              have := gX_new HG5.out HB.out.1 HB.out.2.1 (by rw [HSP.out.2]; exact HB.out.2.2) e
              omega)
          have HFR2 : Hid (Calls Try.prog 11 #[.pointer (some ⟨lb, 0, none⟩)] wt (FramePost lb sb S' V' wt)) := frame_at HDR.out wt lb sb S' V' hgt.sh hgt.ok hgt.lay hgt.vok
          have q1 := hgt.q1
          clear p0 p1 p2 p3 p4 p5 kt hgt hst' hpb' HPC
          go_wp2_with fail
          refine HFR2.out.mono ?_
          rintro e w8 ⟨fb, rfl, k8, hL8, hF8, hn8⟩
          have HG8 : Hid (GameAt w8 qb sb lb S' V') := HGT.out.call k8 hL8 HGT.out.vok
          have HNLB : Hid (fb ≠ lb) := by
            have h1 := HGT.out.lay.lt
            show _ ≠ _; omega
          have HK8 : Hid (Kp no w1 w8) := HKT.out.trans2 k8 (fun j hj e => by
            have e' : j = lb := e
            have := HB.out.2.1
            omega)
          have HFK : Hid (∀ y x, (frameOf S' V' y x).drawn = true → (frameOf S' V' y x).fR < 64 ∧ (frameOf S' V' y x).fC < 26) := fun y x h => by
            have h0 := of_line HG8.out.ok HG8.out.vok ((Spot.of_iff _ _ _).2 ⟨h, rfl, rfl⟩)
            exact ⟨h0.1, h0.2.1⟩
          have HRL : Hid (∀ r c, r < 64 → c < 26 → ReachOk (frameOf S' V') r c (reachR S' V' (r : Int) (c : Int))) := fun r c hr hc => reach_law HG8.out.ok HG8.out.vok hr hc
          have HF8 : Hid (FrameAt w8 fb (frameOf S' V')) := hF8
          clear k8 hL8 hF8 hn8 q1 HFR2
          generalize frameOf S' V' = F at HFK HRL HF8
          obtain ⟨w9, hw9⟩ : ∃ w9, w9 = w8.alloc (.map #[] 0) := ⟨_, rfl⟩
          obtain ⟨mb, hmb⟩ : ∃ mb, mb = w8.heap.size := ⟨_, rfl⟩
          have hmk := run_makeMap (P := Try.prog) 77 w8
          have HC9 : Hid (CtAt w9 mb (nAt F 0 0)) := by
            show CtAt _ _ _
            rw [hw9, hmb]
            exact (CtAt.new w8).same (fun r c => rfl)
          have HK9 : Hid (Kp no w8 w9) := by show Kp _ _ _; rw [hw9]; exact (Kp.refl no w8).alloc _
          have HMB : Hid (w8.heap.size ≤ mb ∧ mb ≠ lb) := by
            have h1 := HG8.out.lay.lt
            exact ⟨by omega, by omega⟩
          go_upto_region 10 with fail
          rw [← hw9, ← hmb]
          clear hw9 hmb hmk
          go_wp2_with fail
          go_loopw [35] (fun yv wq => ∃ y : Nat, y ≤ 24 ∧ yv = .int .i64 (y : Int) ∧ Kp no w8 wq ∧ Hid (CtAt wq mb (nAt F y 0))) (fun yv _ => 24 - (intOf yv).toNat)
          case atStart => exact ⟨0, by omega, rfl, HK9.out, HC9⟩
          case round =>
            clear HC9 HK9
            obtain ⟨y, hy, rfl, ky, HCY⟩ := hrel
            by_cases hyl : y < 24
            · as_aux_lemma =>
                have i1 : (y : Int) < 24 := by omega
                obtain ⟨cs, hcl, hcr, hci⟩ := (HF8.out.kp ky id).lcs hyl
                have HRG : Hid (wr.rangeAt fb (y * 560) cs) := hcr
                have HCL : Hid (cs.length = 560) := hcl
                have HCI : Hid (∀ x : Nat, x < 80 → ∀ Z : World, (Instr.index 53 (.agg cs.toArray) (.int .i64 (x : Int))).run Try.prog Z = .ok (.agg #[.bool (F y x).own, .int .i64 ((F y x).oR : Int), .int .i64 ((F y x).oC : Int), .bool (F y x).drawn, .int .i64 ((F y x).fR : Int), .int .i64 ((F y x).fC : Int), .int .u8 ((F y x).ch : Int)]) Z) := hci
                clear hcl hcr hci
                go_upto_region 13 with fail
                refine wp_region_list ?_
                refine wpList_plain rfl fun K hK => ?_
                go_simp
                refine hK _ _ ?_
                clear hK K
                refine wpList_plain rfl fun K hK => ?_
                go_simp
                refine hK _ _ ?_
                clear hK K
                refine wpList_plain rfl fun K hK => ?_
                go_simp
                refine hK _ _ ?_
                clear hK K
                refine wpList_plain rfl fun K hK => ?_
                go_simp
                refine hK _ _ ?_
                clear hK K
                refine wpList_load_mid rfl 53 _ rfl fb (y * 560) (by first | rfl | simp [go_sem]) cs _ HRG.out Try.underlying53 rfl (by rw [info53, HCL.out]) ?_
                refine wpList_plain rfl fun K hK => ?_
                go_simp
                refine hK _ _ ?_
                clear hK K
                refine wpList_nil ?_
                clear HRG HCL
                go_wp2_with fail
                go_loopw [43] (fun xv wq => ∃ x : Nat, x ≤ 80 ∧ xv = .int .i64 (x : Int) ∧ Kp no w8 wq ∧ Hid (CtAt wq mb (nAt F y x))) (fun xv _ => 80 - (intOf xv).toNat)
                case atStart => exact ⟨0, by omega, rfl, ky, HCY⟩
                case round =>
                  clear ky HCY
                  obtain ⟨x, hx, rfl, kx, HCX⟩ := hrel
                  by_cases hxl : x < 80
                  · as_aux_lemma =>
                      have i2 : (x : Int) < 80 := by omega
                      have hix := HCI.out x hxl
                      have HND : Hid ((F y x).drawn = true → ∀ r c, bump (nAt F y x) (F y x).fR (F y x).fC r c = nAt F y (x + 1) r c) := fun h r c => nAt_drawn h r c
                      have HNC : Hid ((F y x).drawn = false → ∀ r c, nAt F y x r c = nAt F y (x + 1) r c) := fun h r c => nAt_clear h r c
                      have HFX : Hid ((F y x).drawn = true → (F y x).fR < 64 ∧ (F y x).fC < 26) := HFK.out y x
                      have HNL : Hid (∀ r c, nAt F y x r c ≤ 2000) := fun r c => by
                        have := nAt_le F y x r c
                        show _ ≤ _; omega
                      generalize F y x = s at hix HND HNC HFX
                      obtain ⟨ow, oR, oC, dr, fR, fC, ch⟩ := s
                      simp only at hix HND HNC HFX
                      generalize nAt F y x = N at HND HNC HNL HCX
                      obtain ⟨w13, hw13⟩ : ∃ w13, w13 = wr.alloc (.cells #[.bool ow, .int .i64 (oR : Int), .int .i64 (oC : Int), .bool dr, .int .i64 (fR : Int), .int .i64 (fC : Int), .int .u8 (ch : Int)] 52) := ⟨_, rfl⟩
                      obtain ⟨b10, hb10⟩ : ∃ b10, b10 = wr.heap.size := ⟨_, rfl⟩
                      have c3 : w13.cell? ⟨b10, 3, none⟩ = some (.bool dr) := by rw [hw13, hb10]; simp
                      have c4 : w13.cell? ⟨b10, 4, none⟩ = some (.int .i64 (fR : Int)) := by rw [hw13, hb10]; simp
                      have c5 : w13.cell? ⟨b10, 5, none⟩ = some (.int .i64 (fC : Int)) := by rw [hw13, hb10]; simp
                      have HK13 : Hid (Kp no wr w13) := by show Kp _ _ _; rw [hw13]; exact (Kp.refl no wr).alloc _
                      have HC13 : Hid (CtAt w13 mb N) := HCX.out.kp HK13.out id
                      have HKX : Hid (Kp no w8 w13) := kx.trans HK13.out
                      clear kx HCX
                      go_upto_region 16 with fail
                      rw [← hw13, ← hb10]
                      clear hw13 hb10 hix
                      cases dr with
                      | false =>
                        have HCN : Hid (CtAt w13 mb (nAt F y (x + 1))) := HC13.out.same (HNC.out rfl)
                        clear HND HNC HFX
                        go_wp2_with fail
                        refine ⟨⟨x + 1, by omega, by go_num, HKX.out, HCN⟩, by simp [intOf]; omega⟩
                      | true =>
                        obtain ⟨bn, o1, o2, hup⟩ := HC13.out.up (HFX.out rfl).1 (HFX.out rfl).2
                        have HUP : Hid (MapUp w13 mb fR fC N bn o1 o2) := hup
                        have HLT : Hid (mb < w13.heap.size) := HC13.out.lt
                        obtain ⟨n, hn⟩ : ∃ n, n = N fR fC := ⟨_, rfl⟩
                        have e0 := hup.entry w13 rfl
                        have e1 := hup.entry w13.drew rfl
                        have l0 := hup.look w13 rfl
                        have l1 := hup.look w13.drew rfl
                        have l2 := hup.look1 w13 HLT.out
                        have l3 := hup.look1 w13.drew HLT.out
                        have s0 := hup.store w13 HLT.out
                        have s1 := hup.store w13.drew HLT.out
                        have hnl : (n : Int) < 3000 := by have := HNL.out fR fC; omega
                        have hnl0 : (0 : Int) ≤ (n : Int) := by omega
                        rw [← hn] at e0 e1 l0 l1 l2 l3 s0 s1
                        clear hup hn
                        go_wp2_with fail
                        go_region
                        all_goals go_wp2_with fail
                        have HKZ : Hid (Kp no w8 (setBlock (setBlock w13.drew mb o1) mb o2)) := by
                          have kz : Kp (one mb) w13 (setBlock (setBlock w13.drew mb o1) mb o2) := ((Kp.refl (one mb) w13).drew.setB (fun _ => rfl) _).setB (fun _ => rfl) _
                          exact HKX.out.trans2 kz (fun j hj e => by have e' : j = mb := e; have := HMB.out.1; omega)
                        have HCN : Hid (CtAt (setBlock (setBlock w13.drew mb o1) mb o2) mb (nAt F y (x + 1))) := (HUP.out.at_ w13.drew HLT.out).same (HND.out (by simp))
                        refine ⟨⟨x + 1, by omega, by go_num, HKZ.out, HCN⟩, by simp [intOf]; omega⟩
                  · have hx' : 80 = x := by omega
                    subst hx'
                    have HCN : Hid (CtAt wr mb (nAt F (y + 1) 0)) := HCX.out.same (fun r c => nAt_line F y r c)
                    clear HCX
                    go_wp2_with fail
                    refine ⟨⟨y + 1, by omega, by go_num, kx, HCN⟩, by simp [intOf]; omega⟩
            · have hy' : 24 = y := by omega
              have i1 : ¬ (y : Int) < 24 := by omega
              have HC24 : Hid (CtAt wr mb (nAt F 24 0)) := by rw [hy']; exact HCY.out
              clear HCY hy' hyl hy
              have HG9 : Hid (GameAt wr qb sb lb S' V') := HG8.out.on ky
              have HF9 : Hid (FrameAt wr fb F) := HF8.out.kp ky id
              have HK9 : Hid (Kp no w1 wr) := HK8.out.trans ky
              clear ky HF8 HG8 HK8
              obtain ⟨w9, rfl⟩ : ∃ w9, w9 = wr := ⟨_, rfl⟩
              as_aux_lemma =>
                go_wp2_with fail
                go_loopw [11] (fun rv wq => ∃ r : Nat, r ≤ 64 ∧ rv = .int .i64 (r : Int) ∧ Hid (GameAt wq qb sb lb S' V') ∧ Hid (FrameAt wq fb F) ∧ Hid (CtAt wq mb (nAt F 24 0)) ∧ Hid (Kp no w1 wq)) (fun rv _ => 64 - (intOf rv).toNat)
                case atStart => exact ⟨0, by omega, rfl, HG9, HF9, HC24, HK9⟩
                case round =>
                  clear HG9 HF9 HC24 HK9 i1
                  obtain ⟨r, hr, rfl, HGR, HFR, HCR, HKRR⟩ := hrel
                  by_cases hrl : r < 64
                  · have i1 : (r : Int) < 64 := by omega
                    go_wp2_with fail
                    go_loopw [12] (fun cv wq => ∃ c : Nat, c ≤ 26 ∧ cv = .int .i64 (c : Int) ∧ Hid (GameAt wq qb sb lb S' V') ∧ Hid (FrameAt wq fb F) ∧ Hid (CtAt wq mb (nAt F 24 0)) ∧ Hid (Kp no w1 wq)) (fun cv _ => 26 - (intOf cv).toNat)
                    case atStart => exact ⟨0, by omega, rfl, HGR, HFR, HCR, HKRR⟩
                    case round =>
                      clear HGR HFR HCR HKRR
                      obtain ⟨cc, hc, rfl, HGC, HFC, HCC, HKC⟩ := hrel
                      by_cases hcl : cc < 26
                      · as_aux_lemma =>
                          have i2 : (cc : Int) < 26 := by omega
                          obtain ⟨w11, hw11⟩ : ∃ w11, w11 = wr.alloc (.cells #[.int .i64 (r : Int), .int .i64 (cc : Int)] 31) := ⟨_, rfl⟩
                          obtain ⟨b13, hb13⟩ : ∃ b13, b13 = wr.heap.size := ⟨_, rfl⟩
                          have v0 : w11.cell? ⟨b13, 0, none⟩ = some (.int .i64 (r : Int)) := by rw [hw11, hb13]; simp
                          have v1 : w11.cell? ⟨b13, 1, none⟩ = some (.int .i64 (cc : Int)) := by rw [hw11, hb13]; simp
                          have HK11 : Hid (Kp no wr w11) := by show Kp _ _ _; rw [hw11]; exact (Kp.refl no wr).alloc _
                          have HNB : Hid (b13 ≠ lb) := by have := HGC.out.lay.lt; show _ ≠ _; omega
                          have HG11 : Hid (GameAt w11 qb sb lb S' V') := HGC.out.on HK11.out
                          have HF11 : Hid (FrameAt w11 fb F) := HFC.out.kp HK11.out id
                          have HC11 : Hid (CtAt w11 mb (nAt F 24 0)) := HCC.out.kp HK11.out id
                          have HKK : Hid (Kp no w1 w11) := HKC.out.trans HK11.out
                          clear HGC HFC HCC HKC
                          go_upto_region 27 with fail
                          rw [← hw11, ← hb13]
                          clear hw11 hb13
                          have HRO : Hid (ReachOk F r cc (reachR S' V' (r : Int) (cc : Int))) := HRL.out r cc hrl hcl
                          have HCALL : Hid (∀ w', Kp no w11 w' → Calls Try.prog 26 #[.pointer (some ⟨lb, 0, none⟩), .agg #[.int .i64 (r : Int), .int .i64 (cc : Int)]] w' (ReachPost lb sb S' V' (r : Int) (cc : Int) w')) := fun w' k' => by
                            have hg := HG11.out.on k'
                            exact reach_at HDR.out w' lb sb S' V' hg.sh hg.ok hg.lay hg.vok (r : Int) (cc : Int)
                          unfold ReachPost at HCALL
                          generalize reachR S' V' (r : Int) (cc : Int) = R at HRO HCALL
                          obtain ⟨⟨ry0, rx0, ry1, rx1⟩, fl⟩ := R
                          simp only at HCALL
                          have q1 := HG11.out.q1
                          have hll : lb < w11.heap.size := HG11.out.lay.lt
                          have hlq : qb < w11.heap.size := cell_lt q1
                          have hlt : b13 < w11.heap.size := cell_lt v0
                          go_cut [14, 15] (fun s9 s10 wx => ∃ (b14 : Nat), s9 = .pointer (some ⟨b14, 0, none⟩) ∧ s10 = .bool fl ∧ VarRc w11 lb sb S' V' b14 ry0 rx0 ry1 rx1 wx)
                          case first =>
                            as_aux_lemma =>
                              go_region_with (go_at_call 26; refine (HCALL.out _ (by first | exact (Kp.refl no _).drew | exact ((Kp.refl no _).alloc _).drew | exact (Kp.refl no _).drew.alloc _)).mono ?_; rintro e w6 ⟨rfl, kp6, hL6⟩; first | (have m8 := alloc4o kp6 hll; obtain ⟨m0, m1, m2, m3, m4, m5, m6, m7⟩ := m8) | skip)
                              all_goals go_wp2_with fail
                              all_goals go_meet
                              all_goals first
                                | exact ⟨_, rfl, rfl, VarRc.after ry0 rx0 ry1 rx1 kp6 hL6⟩
                                | exact ⟨_, rfl, rfl, VarRc.before ry0 rx0 ry1 rx1 kp6 hll hL6⟩
                          case rest =>
                          obtain ⟨b14, rfl, rfl, hv⟩ := hcut
                          obtain ⟨w12, rfl⟩ : ∃ w12, w12 = wc := ⟨_, rfl⟩
                          have HV : Hid (VarRc w11 lb sb S' V' b14 ry0 rx0 ry1 rx1 w12) := hv
                          have HG12 : Hid (GameAt w12 qb sb lb S' V') := HG11.out.call hv.kp hv.lay HG11.out.vok
                          have HF12 : Hid (FrameAt w12 fb F) := HF11.out.kp hv.kp HNLB.out
                          have HC12 : Hid (CtAt w12 mb (nAt F 24 0)) := HC11.out.kp hv.kp HMB.out.2
                          have HKL : Hid (Kp no w1 w12) := HKK.out.trans2 hv.kp (fun j hj e => by
                            have e' : j = lb := e
                            have := HB.out.2.1
                            omega)
                          have u0 := hv.kp.cell v0 HNB.out
                          have u1 := hv.kp.cell v1 HNB.out
                          clear hv v0 v1 q1 hll hlq hlt HCALL HG11 HF11 HC11 HKK
                          obtain ⟨n, hn⟩ : ∃ n, n = nAt F 24 0 r cc := ⟨_, rfl⟩
                          have HN : Hid (n = cnts F r cc 24) := by show _ = _; rw [hn]; rfl
                          have hlk : (Instr.lookup 77 (.map (some mb)) (.agg #[.int .i64 (r : Int), .int .i64 (cc : Int)]) false).run Try.prog w12 = .ok (.int .i64 (n : Int)) w12 := by rw [hn]; exact HC12.out.look hrl hcl
                          have HLK : Hid (∀ p : KpOf w12, (Instr.lookup 77 (.map (some mb)) (.agg #[.int .i64 (r : Int), .int .i64 (cc : Int)]) false).run Try.prog p.to = .ok (.int .i64 (n : Int)) p.to) := fun p => by rw [hn]; exact (HC12.out.kp p.h id).look hrl hcl
                          clear hn
                          cases fl with
                          | false =>
                            have HZ : Hid (n = 0) := by
                              have h0 : false = decide (0 < cnts F r cc 24) := HRO.out.ok
                              have h1 : ¬ (0 < cnts F r cc 24) := of_decide_eq_false h0.symm
                              have h2 := HN.out
                              show _ = _; omega
                            obtain rfl := HZ.out
                            have hlk' : (Instr.lookup 77 (.map (some mb)) (.agg #[.int .i64 (r : Int), .int .i64 (cc : Int)]) false).run Try.prog w12 = .ok (.int .i64 0) w12 := hlk
                            clear hlk
                            go_wp2_with fail
                            as_aux_lemma =>
                              go_cut [131] (fun s131 wx => s131 = .bool false ∧ Kp no w12 wx)
                              case first =>
                                as_aux_lemma =>
                                  refine wp_region_kp (by kernel_rfl) (by kernel_rfl) ?_
                                  repeat (go_big_quiet_step (fail))
                                  refine wpQuiet_nil ?_
                                  intro _ hw'
                                  obtain ⟨⟨wq, kq⟩, hw''⟩ := hw'
                                  subst hw''
                                  go_wp2_with fail
                                  go_meet
                                  exact ⟨rfl, kq⟩
                              case rest =>
                              obtain ⟨rfl, kz⟩ := hcut
                              have HGZ : Hid (GameAt wc qb sb lb S' V') := HG12.out.on kz
                              have HFZ : Hid (FrameAt wc fb F) := HF12.out.kp kz id
                              have HCZ : Hid (CtAt wc mb (nAt F 24 0)) := HC12.out.kp kz id
                              have HKZ : Hid (Kp no w1 wc) := HKL.out.trans kz
                              clear kz
                              go_wp2_with fail
                              refine ⟨⟨cc + 1, by omega, by go_num, HGZ, HFZ, HCZ, HKZ⟩, by simp [intOf]; omega⟩
                          | true =>
                            have HZ : Hid (0 < n) := by
                              have h0 : true = decide (0 < cnts F r cc 24) := HRO.out.ok
                              have h1 : 0 < cnts F r cc 24 := of_decide_eq_true h0.symm
                              have h2 := HN.out
                              show _ < _; omega
                            have hgt : (0 : Int) < (n : Int) := by have := HZ.out; omega
                            have hgt2 : 0 < n := HZ.out
                            have hgt3 : decide (0 < n) = true := decide_eq_true hgt2
                            obtain ⟨Y, X, X1, rfl, rfl, rfl, rfl, hY, hX, hX1, hd⟩ : ∃ Y X X1 : Nat, ry0 = (Y : Int) ∧ rx0 = (X : Int) ∧ ry1 = (Y : Int) + 1 ∧ rx1 = (X1 : Int) + 1 ∧ Y < 24 ∧ X < 80 ∧ X1 < 80 ∧ (X1 : Int) + 1 - (X : Int) = (n : Int) := by
                              have h1 : 0 ≤ ry0 ∧ ry0 < 24 ∧ 0 ≤ rx0 ∧ rx0 < rx1 ∧ rx1 ≤ 80 := HRO.out.bnd rfl
                              have h2 : ry1 = ry0 + 1 := HRO.out.y1 rfl
                              have h3 : rx1 - rx0 = (cnts F r cc 24 : Int) := HRO.out.x1 rfl
                              have h4 := HN.out
                              exact ⟨ry0.toNat, rx0.toNat, (rx1 - 1).toNat, by omega, by omega, by omega, by omega, by omega, by omega, by omega, by omega⟩
                            have HFA : Hid ((F Y X).fR = r ∧ (F Y X).fC = cc) := by
                              have h : (F (Y : Int).toNat (X : Int).toNat).fR = r ∧ (F (Y : Int).toNat (X : Int).toNat).fC = cc := HRO.out.f0 rfl
                              rw [Int.toNat_natCast, Int.toNat_natCast] at h
                              exact h
                            have HFB : Hid ((F Y X1).fR = r ∧ (F Y X1).fC = cc) := by
                              have h : (F (Y : Int).toNat ((X1 : Int) + 1 - 1).toNat).fR = r ∧ (F (Y : Int).toNat ((X1 : Int) + 1 - 1).toNat).fC = cc := HRO.out.f1 rfl
                              have e : ((X1 : Int) + 1 - 1).toNat = X1 := by omega
                              rw [Int.toNat_natCast, e] at h
                              exact h
                            go_upto_region 30 with fail
                            have HU : Hid (w12.cell? ⟨b13, 0, none⟩ = some (.int .i64 (r : Int)) ∧ w12.cell? ⟨b13, 1, none⟩ = some (.int .i64 (cc : Int))) := ⟨u0, u1⟩
                            clear hlk hgt hgt2 hgt3 u0 u1
                            have j1 : (Y : Int) < 24 := by omega
                            have j2 : (X : Int) < 80 := by omega
                            have j3 : (X1 : Int) < 80 := by omega
                            as_aux_lemma =>
                              have hlk := HLK.out
                              have hneq : ∀ Z : World, (binOp .neq 31 (.agg #[.int .i64 (r : Int), .int .i64 (cc : Int)]) (.agg #[.int .i64 (r : Int), .int .i64 (cc : Int)])).run Try.prog Z = .ok (.bool false) Z := fun Z => by
                                have h := neq31 (r : Int) (cc : Int) (r : Int) (cc : Int) Z
                                simpa using h
                              have m0 : ∀ p : KpOf w12, p.to.cell? ⟨b14, 0, none⟩ = some (.int .i64 (Y : Int)) := fun p => p.h.cell HV.out.c0 id
                              have m1 : ∀ p : KpOf w12, p.to.cell? ⟨b14, 1, none⟩ = some (.int .i64 (X : Int)) := fun p => p.h.cell HV.out.c1 id
                              have m2 : ∀ p : KpOf w12, p.to.cell? ⟨b14, 2, none⟩ = some (.int .i64 ((Y : Int) + 1)) := fun p => p.h.cell HV.out.c2 id
                              have m3 : ∀ p : KpOf w12, p.to.cell? ⟨b14, 3, none⟩ = some (.int .i64 ((X1 : Int) + 1)) := fun p => p.h.cell HV.out.c3 id
                              have a0 : ∀ p : KpOf w12, p.to.cell? ⟨b13, 0, none⟩ = some (.int .i64 (r : Int)) := fun p => p.h.cell HU.out.1 id
                              have a1 : ∀ p : KpOf w12, p.to.cell? ⟨b13, 1, none⟩ = some (.int .i64 (cc : Int)) := fun p => p.h.cell HU.out.2 id
                              have g4 : ∀ p : KpOf w12, p.to.cell? ⟨fb, Y * 560 + X * 7 + 4, none⟩ = some (.int .i64 (r : Int)) := fun p => by
                                have h := ((HF12.out.line Y hY).at_ X hX).c4
                                rw [HFA.out.1] at h
                                exact p.h.cell h id
                              have g5 : ∀ p : KpOf w12, p.to.cell? ⟨fb, Y * 560 + X * 7 + 4 + 1, none⟩ = some (.int .i64 (cc : Int)) := fun p => by
                                have h := ((HF12.out.line Y hY).at_ X hX).c5
                                rw [HFA.out.2] at h
                                exact p.h.cell h id
                              have g5' : ∀ p : KpOf w12, p.to.cell? ⟨fb, Y * 560 + X * 7 + 5, none⟩ = some (.int .i64 (cc : Int)) := g5
                              have h4 : ∀ p : KpOf w12, p.to.cell? ⟨fb, Y * 560 + X1 * 7 + 4, none⟩ = some (.int .i64 (r : Int)) := fun p => by
                                have h := ((HF12.out.line Y hY).at_ X1 hX1).c4
                                rw [HFB.out.1] at h
                                exact p.h.cell h id
                              have h5 : ∀ p : KpOf w12, p.to.cell? ⟨fb, Y * 560 + X1 * 7 + 4 + 1, none⟩ = some (.int .i64 (cc : Int)) := fun p => by
                                have h := ((HF12.out.line Y hY).at_ X1 hX1).c5
                                rw [HFB.out.2] at h
                                exact p.h.cell h id
                              have h5' : ∀ p : KpOf w12, p.to.cell? ⟨fb, Y * 560 + X1 * 7 + 5, none⟩ = some (.int .i64 (cc : Int)) := h5
                              go_cut [131] (fun s131 wx => s131 = .bool false ∧ Kp no w12 wx)
                              case first =>
                                as_aux_lemma =>
                                  refine wp_region_kp (by kernel_rfl) (by kernel_rfl) ?_
                                  repeat (go_big_quiet_step (fail))
                                  refine wpQuiet_nil ?_
                                  intro _ hw'
                                  obtain ⟨⟨wq, kq⟩, hw''⟩ := hw'
                                  subst hw''
                                  go_wp2_with fail
                                  go_meet
                                  exact ⟨rfl, kq⟩
                              case rest =>
                              obtain ⟨rfl, kz⟩ := hcut
                              have HGZ : Hid (GameAt wc qb sb lb S' V') := HG12.out.on kz
                              have HFZ : Hid (FrameAt wc fb F) := HF12.out.kp kz id
                              have HCZ : Hid (CtAt wc mb (nAt F 24 0)) := HC12.out.kp kz id
                              have HKZ : Hid (Kp no w1 wc) := HKL.out.trans kz
                              clear kz hlk hneq m0 m1 m2 m3 a0 a1 g4 g5 g5' h4 h5 h5' j1 j2 j3
                              go_wp2_with fail
                              refine ⟨⟨cc + 1, by omega, by go_num, HGZ, HFZ, HCZ, HKZ⟩, by simp [intOf]; omega⟩
                      · have hc' : 26 = cc := by omega
                        subst hc'
                        go_wp2_with fail
                        refine ⟨⟨r + 1, by omega, by go_num, HGC, HFC, HCC, HKC⟩, by simp [intOf]; omega⟩
                  · have hr' : 64 = r := by omega
                    subst hr'
                    go_wp2_with fail
                    refine ⟨⟨k + 1, S', V', by omega, by go_num, HGR, HSP2, HKRR.out⟩, by simp [intOf]; omega⟩
      · have hk' : n = k := by omega
        subst hk'
        go_wp2_with fail
        go_ret
        exact ⟨rfl, kr⟩
end Go.Proofs.Qxb6500653a
