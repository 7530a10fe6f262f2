/-
  RepaintRepairsTheRectangleAndNoMore (5): the walk.
-/
import Derived.Test.Qxb6500653aPlayOk
import Derived.Test.Qxb6500653aNewP
import Derived.Test.Qxb6500653aScript
import Derived.Test.Qxb6500653aCopy
import Derived.Test.Qxb6500653aKq
namespace Go.Proofs.Qxb6500653a
open Go.RowKit

def Spot.agg (s : Spot) : Value := .agg #[.bool s.own, .int .i64 (s.oR : Int), .int .i64 (s.oC : Int), .bool s.drawn, .int .i64 (s.fR : Int), .int .i64 (s.fC : Int), .int .u8 (s.ch : Int)]
theorem FrameAt.copy {w : World} {fb : Nat} {F : Nat → Nat → Spot} (h : FrameAt w fb F) : ∃ cs : List Value, cs.length = 13440 ∧ w.rangeAt fb 0 cs ∧ (∀ v ∈ cs, v.oneCell' = true) ∧ FrameAt ((w.alloc (.cells Try.zeroCells61 61)).setCells w.heap.size 0 cs) w.heap.size F ∧ Kp no w ((w.alloc (.cells Try.zeroCells61 61)).setCells w.heap.size 0 cs) :=
  ⟨fcells F, fcells_len F, h.range, fcells_one F, (FrameAt.copied F).1, (FrameAt.copied F).2⟩
theorem put7_at {w : World} {b : Nat} {u0 u1 u2 u3 u4 u5 u6 : Value} (h0 : w.cell? ⟨b, 0, none⟩ = some u0) (h1 : w.cell? ⟨b, 1, none⟩ = some u1) (h2 : w.cell? ⟨b, 2, none⟩ = some u2) (h3 : w.cell? ⟨b, 3, none⟩ = some u3) (h4 : w.cell? ⟨b, 4, none⟩ = some u4) (h5 : w.cell? ⟨b, 5, none⟩ = some u5) (h6 : w.cell? ⟨b, 6, none⟩ = some u6) (s2 : Spot) :
    SpotAt (((((((w.setCell ⟨b, 0, none⟩ (.bool s2.own)).setCell ⟨b, 1, none⟩ (.int .i64 (s2.oR : Int))).setCell ⟨b, 2, none⟩ (.int .i64 (s2.oC : Int))).setCell ⟨b, 3, none⟩ (.bool s2.drawn)).setCell ⟨b, 4, none⟩ (.int .i64 (s2.fR : Int))).setCell ⟨b, 5, none⟩ (.int .i64 (s2.fC : Int))).setCell ⟨b, 6, none⟩ (.int .u8 (s2.ch : Int))) b 0 s2 := by
  have set : ∀ (W : World) (i : Nat) (v : Value) (j : Nat) (u : Value), W.cell? ⟨b, j, none⟩ = some u → (W.setCell ⟨b, i, none⟩ v).cell? ⟨b, j, none⟩ = some (if j = i then v else u) := fun W i v j u hu => by
    by_cases e : j = i
    · subst e; rw [if_pos rfl]; exact cset_eq _ _ _ _ hu
    · rw [if_neg e, cset_ne _ _ _ _ _ (Ne.symm e)]; exact hu
  refine ⟨?_, ?_, ?_, ?_, ?_, ?_, ?_⟩
  · exact (set _ 6 _ 0 _ (set _ 5 _ 0 _ (set _ 4 _ 0 _ (set _ 3 _ 0 _ (set _ 2 _ 0 _ (set _ 1 _ 0 _ (set _ 0 _ 0 _ h0)))))))
  · exact (set _ 6 _ 1 _ (set _ 5 _ 1 _ (set _ 4 _ 1 _ (set _ 3 _ 1 _ (set _ 2 _ 1 _ (set _ 1 _ 1 _ (set _ 0 _ 1 _ h1)))))))
  · exact (set _ 6 _ 2 _ (set _ 5 _ 2 _ (set _ 4 _ 2 _ (set _ 3 _ 2 _ (set _ 2 _ 2 _ (set _ 1 _ 2 _ (set _ 0 _ 2 _ h2)))))))
  · exact (set _ 6 _ 3 _ (set _ 5 _ 3 _ (set _ 4 _ 3 _ (set _ 3 _ 3 _ (set _ 2 _ 3 _ (set _ 1 _ 3 _ (set _ 0 _ 3 _ h3)))))))
  · exact (set _ 6 _ 4 _ (set _ 5 _ 4 _ (set _ 4 _ 4 _ (set _ 3 _ 4 _ (set _ 2 _ 4 _ (set _ 1 _ 4 _ (set _ 0 _ 4 _ h4)))))))
  · exact (set _ 6 _ 5 _ (set _ 5 _ 5 _ (set _ 4 _ 5 _ (set _ 3 _ 5 _ (set _ 2 _ 5 _ (set _ 1 _ 5 _ (set _ 0 _ 5 _ h5)))))))
  · exact (set _ 6 _ 6 _ (set _ 5 _ 6 _ (set _ 4 _ 6 _ (set _ 3 _ 6 _ (set _ 2 _ 6 _ (set _ 1 _ 6 _ (set _ 0 _ 6 _ h6)))))))
theorem neq52 (s : Spot) (W : World) : (binOp .neq 52 s.agg s.agg).run Try.prog W = .ok (.bool false) W := by
  unfold Spot.agg
  simp [go_sem]

set_option maxRecDepth 100000 in
set_option maxHeartbeats 400000000 in
theorem rep_some (hdr : DrawRowOk) (hpl : PlayOk) (W : World) (b off n cap : Nat) (D : Nat → Od) (hn : n ≤ 140737488351232) (hsm : Calls Try.prog 8 #[.slice (some ⟨b, off, none⟩) n cap] W (SmallPost n D W)) (hD : ∀ i, i < n → OpAt W b (off + i * 6) (D i)) :
    Calls Try.prog 5 #[.slice (some ⟨b, off, none⟩) n cap] W fun e w' => e = .returned (.bool true) ∧ Kp no W w' := by
  have HPL : Hid PlayOk := hpl
  have HD : Hid (∀ i, i < n → OpAt W b (off + i * 6) (D i)) := hD
  have HSM : Hid (Calls Try.prog 8 #[.slice (some ⟨b, off, none⟩) n cap] W (SmallPost n D W)) := hsm
  have HDR : Hid DrawRowOk := hdr
  clear hpl hD hsm hdr
  go_enter Try.func5, Try.ntmps5
  go_wp2_with fail
  refine HSM.out.mono ?_
  rintro e w1 ⟨r, rfl, hw1, hr⟩
  subst hw1
  cases r with
  | false =>
    go_wp2_with fail
    go_ret
    exact ⟨rfl, Kp.refl _ _⟩
  | true =>
    have HSS : Hid (SmallS n D) := hr rfl
    clear hr
    go_wp2_with fail
    refine (newPlayer_n w1).mono ?_
    rintro e w2 ⟨qb, sb, lb, pb, rfl, k2, hg2, hb1, hb2, hb3⟩
    have HB : Hid (w1.heap.size ≤ sb ∧ w1.heap.size ≤ lb ∧ w1.heap.size ≤ pb) := ⟨hb1, hb2, hb3⟩
    have HG2 : Hid (GameAt w2 qb sb lb (Sh.new pb) ⟨0, 0, 0, 0⟩) := hg2
    have HK2 : Hid (Kp no w1 w2) := k2
    clear hb1 hb2 hb3 hg2 k2
    go_wp2_with fail
    go_loopw [19] (fun kv wr => ∃ (k : Nat) (S : Sh) (V : Vw), k ≤ n ∧ kv = .int .i64 (k : Int) ∧ Hid (GameAt wr qb sb lb S V) ∧ Hid (S.steps = k ∧ S.pb = pb) ∧ Kp no w1 wr) (fun kv _ => n - (intOf kv).toNat)
    case atStart => exact ⟨0, _, _, Nat.zero_le _, rfl, HG2, ⟨rfl, rfl⟩, HK2.out⟩
    case round =>
      obtain ⟨k, S, V, hk, rfl, HG, HSP, kr⟩ := hrel
      by_cases hlt : k < n
      · obtain ⟨o, ho⟩ : ∃ o, D k = o := ⟨_, rfl⟩
        have HO : Hid (OpAt wr b (off + k * 6) o) := by
          show OpAt _ _ _ _
          rw [← ho]
          have h0 := HD.out k hlt
          exact ⟨kr.cell h0.c0 id, kr.cell h0.c1 id, kr.cell h0.c2 id, kr.cell h0.c3 id, kr.cell h0.c4 id, kr.cell h0.c5 id, h0.max, h0.wa, h0.wb, h0.wc, h0.wd⟩
        have HTX : Hid (o.text.size ≤ 65536) := by show _ ≤ _; rw [← ho]; exact HSS.out.2 k hlt
        obtain ⟨kd, a, bb, c, d, tx⟩ := o
        have c0 := HO.out.c0
        have c1 := HO.out.c1
        have c2 := HO.out.c2
        have c3 := HO.out.c3
        have c4 := HO.out.c4
        have c5 := HO.out.c5
        obtain ⟨w5, hw5⟩ : ∃ w5, w5 = wr.alloc (.cells #[.int .i64 kd, .int .i64 a, .int .i64 bb, .int .i64 c, .int .i64 d, .string tx] 28) := ⟨_, rfl⟩
        obtain ⟨b5, hb5⟩ : ∃ b5, b5 = wr.heap.size := ⟨_, rfl⟩
        have HO5 : Hid (Bx6 w5 b5 (.int .i64 kd) (.int .i64 a) (.int .i64 bb) (.int .i64 c) (.int .i64 d) (.string tx)) := by
          show Bx6 _ _ _ _ _ _ _ _
          rw [hw5, hb5]; exact Bx6.made wr _ _ _ _ _ _ 28
        have HK5 : Hid (Kp no wr w5) := by show Kp _ _ _; rw [hw5]; exact (Kp.refl no wr).alloc _
        have HG5 : Hid (GameAt w5 qb sb lb S V) := HG.out.on HK5.out
        have HB5 : Hid (wr.heap.size ≤ b5 ∧ b5 < w5.heap.size) := ⟨by omega, cell_lt HO5.out.c0⟩
        have HKR : Hid (Kp no w1 wr) := kr
        clear ho kr
        go_upto_region 7 with fail
        rw [← hw5, ← hb5]
        clear hw5 hb5 c0 c1 c2 c3 c4 c5
        have q1 := HG5.out.q1
        as_aux_lemma =>
          have HFR : Hid (Calls Try.prog 11 #[.pointer (some ⟨lb, 0, none⟩)] w5 (FramePost lb sb S V w5)) := frame_at HDR.out w5 lb sb S V HG5.out.sh HG5.out.ok HG5.out.lay HG5.out.vok
          go_wp2_with fail
          refine HFR.out.mono ?_
          rintro e w6 ⟨fb, rfl, k6, hL6, hF6, hn6⟩
          have HG6 : Hid (GameAt w6 qb sb lb S V) := HG5.out.call k6 hL6 HG5.out.vok
          have HNL : Hid (b5 ≠ lb ∧ fb ≠ lb) := by
            have h1 := HG.out.lay.lt
            have h2 := HB5.out.1
            have h3 := HK5.out.size
            exact ⟨by omega, by omega⟩
          have HO6 : Hid (Bx6 w6 b5 (.int .i64 kd) (.int .i64 a) (.int .i64 bb) (.int .i64 c) (.int .i64 d) (.string tx)) := HO5.out.kp k6 HNL.out.1
          have HF6 : Hid (FrameAt w6 fb (frameOf S V)) := hF6
          have HK56 : Hid (Kp (one lb) w5 w6) := k6
          have HN6 : Hid (w5.heap.size ≤ fb) := hn6
          obtain ⟨F0, hF0⟩ : ∃ F0, F0 = frameOf S V := ⟨_, rfl⟩
          rw [← hF0] at HF6
          obtain ⟨cs, hcl, hcr, hco, hcf, hck⟩ := HF6.out.copy
          have HRG : Hid (w6.rangeAt fb 0 cs) := hcr
          have HCL : Hid (cs.length = 13440) := hcl
          have HCO : Hid (∀ v ∈ cs, v.oneCell' = true) := hco
          have HCP : Hid (FrameAt ((w6.alloc (.cells Try.zeroCells61 61)).setCells w6.heap.size 0 cs) w6.heap.size F0 ∧ Kp no w6 ((w6.alloc (.cells Try.zeroCells61 61)).setCells w6.heap.size 0 cs)) := ⟨hcf, hck⟩
          have HTH : Hid ((w6.alloc (.cells Try.zeroCells61 61)).there w6.heap.size 0 cs.toArray.size) := by
            show World.there _ _ _ _
            have e : cs.toArray.size = 13440 := by rw [List.size_toArray]; exact HCL.out
            rw [e]; exact (frame_new w6).there
          clear k6 hL6 hF6 hn6 q1 HFR hcl hcr hco hcf hck hF0
          go_upto_region 8 with fail
          refine wp_region_list ?_
          refine wpList_plain rfl fun K hK => ?_
          go_simp
          refine hK _ _ ?_
          clear hK K
          refine wpList_plain rfl fun K hK => ?_
          go_simp
          refine hK _ _ ?_
          clear hK K
          refine wpList_load_mid rfl 61 _ rfl fb 0 rfl cs _ HRG.out Try.underlying61 rfl (by rw [info61, HCL.out]) ?_
          refine wpList_plain rfl fun K hK => ?_
          go_simp
          refine hK _ _ ?_
          clear hK K
          refine wpList_store_mid rfl 61 _ _ rfl w6.heap.size 0 cs.toArray rfl rfl HTH.out (by rw [info61, List.size_toArray, HCL.out]) (all_oneCell_toArray HCO.out) ?_
          simp only
          have HNBF : Hid (fb < w6.heap.size) := HF6.out.lt
          have HNB : Hid (wr.heap.size ≤ w6.heap.size ∧ fb < w6.heap.size) := by
            have h1 := HK5.out.size
            have h2 := HK56.out.size
            exact ⟨by omega, HF6.out.lt⟩
          generalize (w6.alloc (.cells Try.zeroCells61 61)).setCells w6.heap.size 0 cs = w8 at HCP ⊢
          generalize w6.heap.size = nb at HCP HNB HNBF ⊢
          have HG8 : Hid (GameAt w8 qb sb lb S V) := HG6.out.on HCP.out.2
          have HF8 : Hid (FrameAt w8 fb F0) := HF6.out.kp HCP.out.2 id
          have HN8 : Hid (FrameAt w8 nb F0) := HCP.out.1
          have HO8 : Hid (Bx6 w8 b5 (.int .i64 kd) (.int .i64 a) (.int .i64 bb) (.int .i64 c) (.int .i64 d) (.string tx)) := HO6.out.kp HCP.out.2 id
          have p0 := HO8.out.c0
          have p1 := HO8.out.c1
          have p2 := HO8.out.c2
          have p3 := HO8.out.c3
          have p4 := HO8.out.c4
          have p5 := HO8.out.c5
          have HPC : Hid (Calls Try.prog 10 #[.pointer (some ⟨qb, 0, none⟩), .agg #[.int .i64 kd, .int .i64 a, .int .i64 bb, .int .i64 c, .int .i64 d, .string tx]] w8 (PlayPost qb sb lb S V ⟨kd, a, bb, c, d, tx⟩ w8)) := HPL.out w8 qb sb lb S V HG8.out (by have h1 := HSP.out.1; have h2 := HSS.out.1; omega) ⟨kd, a, bb, c, d, tx⟩ HTX.out
          clear HRG HCL HCO HTH
          go_wp2_with fail
          refine HPC.out.mono ?_
          rintro e wt ⟨av, S', V', rfl, kt, hgt, hst', hpb', _⟩
          have HGT : Hid (GameAt wt qb sb lb S' V') := hgt
          have HSP2 : Hid (S'.steps = k + 1 ∧ S'.pb = pb) := ⟨by rw [hst', HSP.out.1], by rw [hpb', HSP.out.2]⟩
          have HNG : Hid (∀ x, wr.heap.size ≤ x → ¬ gX sb lb S x) := fun x hx h => by
            have := HG.out.gX_lt h
            omega
          have HFN : Hid (wr.heap.size ≤ fb) := by
            have h1 := HK5.out.size
            have h2 := HN6.out
            show _ ≤ _; omega
          have HKT : Hid (Kp no w1 wt) := by
            have ka : Kp no w1 w5 := HKR.out.trans HK5.out
            have kb : Kp no w1 w6 := ka.trans2 HK56.out (fun j hj e => by
              have e' : j = lb := e
              have := HB.out.2.1
              omega)
            have kc : Kp no w1 w8 := kb.trans HCP.out.2
            exact kc.trans2 kt (fun j hj e => by
              have := gX_new HG8.out HB.out.1 HB.out.2.1 (by rw [HSP.out.2]; exact HB.out.2.2) e
              omega)
          have HFT : Hid (FrameAt wt fb F0 ∧ FrameAt wt nb F0) := ⟨HF8.out.kp kt (HNG.out _ HFN.out), HN8.out.kp kt (HNG.out _ HNB.out.1)⟩
          have HOT : Hid (Bx6 wt b5 (.int .i64 kd) (.int .i64 a) (.int .i64 bb) (.int .i64 c) (.int .i64 d) (.string tx)) := HO8.out.kp kt (HNG.out _ HB5.out.1)
          have HFR2 : Hid (Calls Try.prog 11 #[.pointer (some ⟨lb, 0, none⟩)] wt (FramePost lb sb S' V' wt)) := frame_at HDR.out wt lb sb S' V' hgt.sh hgt.ok hgt.lay hgt.vok
          have q1 := hgt.q1
          clear p0 p1 p2 p3 p4 p5 kt hgt hst' hpb' HPC
          go_wp2_with fail
          refine HFR2.out.mono ?_
          rintro e w10 ⟨f2, rfl, k10, hL10, hF10, hn10⟩
          have HG10 : Hid (GameAt w10 qb sb lb S' V') := HGT.out.call k10 hL10 HGT.out.vok
          obtain ⟨F2, hF2⟩ : ∃ F2, F2 = frameOf S' V' := ⟨_, rfl⟩
          have HLT : Hid (fb < wt.heap.size ∧ nb < wt.heap.size ∧ wt.heap.size ≤ f2) := ⟨HFT.out.1.lt, HFT.out.2.lt, hn10⟩
          have HNLB : Hid (fb ≠ lb ∧ nb ≠ lb ∧ b5 ≠ lb) := by
            have h1 := HG.out.lay.lt
            have h2 := HFN.out
            have h3 := HNB.out.1
            have h4 := HB5.out.1
            exact ⟨by omega, by omega, by omega⟩
          have HF10 : Hid (FrameAt w10 fb F0 ∧ FrameAt w10 nb F0 ∧ FrameAt w10 f2 F2) := ⟨HFT.out.1.kp k10 HNLB.out.1, HFT.out.2.kp k10 HNLB.out.2.1, by rw [hF2]; exact hF10⟩
          have HO10 : Hid (Bx6 w10 b5 (.int .i64 kd) (.int .i64 a) (.int .i64 bb) (.int .i64 c) (.int .i64 d) (.string tx)) := HOT.out.kp k10 HNLB.out.2.2
          have HK10 : Hid (Kp no w1 w10) := HKT.out.trans2 k10 (fun j hj e => by
            have e' : j = lb := e
            have := HB.out.2.1
            omega)
          have p1 := HO10.out.c1
          have p2 := HO10.out.c2
          have p3 := HO10.out.c3
          have p4 := HO10.out.c4
          clear k10 hL10 hF10 hn10 q1 HFR2
          go_upto_region 11 with fail
          go_cut [9] (fun s9 wx => ∃ (y0 x0 y1 x1 : Int), s9 = .pointer (some ⟨w10.heap.size, 0, none⟩) ∧ wx = w10.alloc (.cells #[.int .i64 y0, .int .i64 x0, .int .i64 y1, .int .i64 x1] 50))
          case first =>
            as_aux_lemma =>
              go_wp2_with fail
              go_meet
              exact ⟨_, _, _, _, rfl, rfl⟩
          case rest =>
          obtain ⟨y0, x0, y1, x1, rfl, hw11⟩ := hcut
          obtain ⟨w11, rfl⟩ : ∃ w11, w11 = wc := ⟨_, rfl⟩
          have HB9 : Hid (Box4 w10 w11 w10.heap.size (.int .i64 y0) (.int .i64 x0) (.int .i64 y1) (.int .i64 x1)) := by
            show Box4 _ _ _ _ _ _ _
            rw [hw11]
            exact ⟨(Kp.refl no w10).alloc _, Nat.le_refl _, by simp, by simp, by simp, by simp, fun o => by simp⟩
          clear hw11 p1 p2 p3 p4
          have HL9 : Hid (f2 < w10.heap.size ∧ fb < w10.heap.size ∧ nb < w10.heap.size ∧ lb < w10.heap.size) := ⟨HF10.out.2.2.lt, HF10.out.1.lt, HF10.out.2.1.lt, HG10.out.lay.lt⟩
          generalize w10.heap.size = b9 at HB9 HL9 ⊢
          have HG11 : Hid (GameAt w11 qb sb lb S' V') := HG10.out.on HB9.out.kp
          have HF11 : Hid (FrameAt w11 fb F0 ∧ FrameAt w11 nb F0 ∧ FrameAt w11 f2 F2) := ⟨HF10.out.1.kp HB9.out.kp id, HF10.out.2.1.kp HB9.out.kp id, HF10.out.2.2.kp HB9.out.kp id⟩
          obtain ⟨G, hG⟩ : ∃ G, G = repOf S' V' y0 x0 y1 x1 F0 := ⟨_, rfl⟩
          have HLAW : Hid (∀ y x, x < 80 → G y x = if y0 ≤ (y : Int) ∧ (y : Int) < y1 ∧ x0 ≤ (x : Int) ∧ (x : Int) < x1 then F2 y x else F0 y x) := fun y x hx => by
            rw [hG, hF2]; exact rep_law S' V' y0 x0 y1 x1 F0 hx
          have HRP : Hid (∀ w', Kp no w11 w' → Calls Try.prog 25 #[.pointer (some ⟨lb, 0, none⟩), .pointer (some ⟨fb, 0, none⟩), .agg #[.int .i64 y0, .int .i64 x0, .int .i64 y1, .int .i64 x1]] w' fun e w12 => e = .returned (.tuple #[]) ∧ Kp (fun k => k = lb ∨ k = fb) w11 w12 ∧ LayAt w12 lb sb S' V' ∧ FrameAt w12 fb G) := fun w' k' => by
            have hg := HG11.out.on k'
            refine (repaint_at HDR.out w' lb sb fb S' V' F0 hg.sh hg.ok hg.lay hg.vok (HF11.out.1.kp k' id) y0 x0 y1 x1).mono ?_
            rintro e w12 ⟨e1, e2, e3, e4⟩
            exact ⟨e1, (Kp.of_no k').trans e2, e3, by rw [hG]; exact e4⟩
          clear hG hF2
          have q1 := HG11.out.q1
          have b0 := HB9.out.c0
          have b1 := HB9.out.c1
          have b2 := HB9.out.c2
          have b3 := HB9.out.c3
          have HNE : Hid (¬ (qb = lb ∨ qb = fb) ∧ ¬ (b9 = lb ∨ b9 = fb) ∧ ¬ (nb = lb ∨ nb = fb) ∧ ¬ (f2 = lb ∨ f2 = fb)) := by
            have h1 := HG11.out.lb_ne.1
            have h2 := HL9.out
            have h3 := HLT.out
            have h4 := HNLB.out
            have h5 := HNB.out.2
            refine ⟨fun h => ?_, fun h => by omega, fun h => ?_, fun h => by have := HGT.out.lay.lt; omega⟩
            · rcases h with h | h
              · exact h1 h
              · have h6 := HG11.out.q0
                obtain ⟨v, hv⟩ := HF11.out.1.boo
                rw [h, hv] at h6
                cases h6
            · rcases h with h | h
              · exact HNLB.out.2.1 h
              · have := HNBF.out; omega
          go_wp2_with fail
          go_region_held3 (fun w' => w'.cell? ⟨qb, 1, none⟩ = some (.pointer (some ⟨lb, 0, none⟩)) ∧ w'.cell? ⟨b9, 0, none⟩ = some (.int .i64 y0) ∧ w'.cell? ⟨b9, 1, none⟩ = some (.int .i64 x0) ∧ w'.cell? ⟨b9, 2, none⟩ = some (.int .i64 y1) ∧ w'.cell? ⟨b9, 3, none⟩ = some (.int .i64 x1))
            (refine ⟨?_, ?_, ?_, ?_, ?_⟩ <;> assumption)
            (first | (go_at_call 25; refine (HRP.out _ (by first | exact (Kp.refl no _).drew | exact Kp.refl no _)).mono ?_; rintro e w12 ⟨rfl, k12, hL12, hF12⟩; have z1 := k12.cell q1 HNE.out.1; have z2 := k12.cell b0 HNE.out.2.1; have z3 := k12.cell b1 HNE.out.2.1; have z4 := k12.cell b2 HNE.out.2.1; have z5 := k12.cell b3 HNE.out.2.1))
          all_goals
            have HG12 : Hid (GameAt w12 qb sb lb S' V') := HG11.out.painted HF11.out.1 k12 hL12
            have HF12 : Hid (FrameAt w12 fb G ∧ FrameAt w12 nb F0 ∧ FrameAt w12 f2 F2) := ⟨hF12, HF11.out.2.1.kp k12 HNE.out.2.2.1, HF11.out.2.2.kp k12 HNE.out.2.2.2⟩
            have HK12 : Hid (Kp no w1 w12) := (HK10.out.trans HB9.out.kp).trans2 k12 (fun j hj e => by
              rcases e with e | e
              · have := HB.out.2.1; omega
              · have h1 := HFN.out; have h2 := HKR.out.size; omega)
            clear k12 hL12 hF12 z1 q1 b0 b1 b2 b3 HRP
            as_aux_lemma =>
              go_wp2_with fail
              go_loopw [70] (fun yv wq => ∃ y : Nat, y ≤ 24 ∧ yv = .int .i64 (y : Int) ∧ Kp no w12 wq) (fun yv _ => 24 - (intOf yv).toNat)
              case atStart => exact ⟨0, by omega, rfl, Kp.refl _ _⟩
              case round =>
                obtain ⟨y, hy, rfl, ky⟩ := hrel
                by_cases hyl : y < 24
                · have i1 : (y : Int) < 24 := by omega
                  go_wp2_with fail
                  go_loopw [73] (fun xv wq => ∃ x : Nat, x ≤ 80 ∧ xv = .int .i64 (x : Int) ∧ Kp no w12 wq) (fun xv _ => 80 - (intOf xv).toNat)
                  case atStart => exact ⟨0, by omega, rfl, ky⟩
                  case round =>
                    clear ky
                    obtain ⟨x, hx, rfl, kx⟩ := hrel
                    by_cases hxl : x < 80
                    · as_aux_lemma =>
                        have i2 : (x : Int) < 80 := by omega
                        obtain ⟨s0, hs0⟩ : ∃ s, F0 y x = s := ⟨_, rfl⟩
                        obtain ⟨s2, hs2⟩ : ∃ s, F2 y x = s := ⟨_, rfl⟩
                        obtain ⟨sg, hsg⟩ : ∃ s, G y x = s := ⟨_, rfl⟩
                        have HS0 : Hid (SpotAt wr nb (y * 560 + x * 7) s0) := by show SpotAt _ _ _ _; rw [← hs0]; exact ((HF12.out.2.1.kp kx id).line y hyl).at_ x hxl
                        have HS2 : Hid (SpotAt wr f2 (y * 560 + x * 7) s2) := by show SpotAt _ _ _ _; rw [← hs2]; exact ((HF12.out.2.2.kp kx id).line y hyl).at_ x hxl
                        have HSG : Hid (SpotAt wr fb (y * 560 + x * 7) sg) := by show SpotAt _ _ _ _; rw [← hsg]; exact ((HF12.out.1.kp kx id).line y hyl).at_ x hxl
                        have HL : Hid (sg = if y0 ≤ (y : Int) ∧ (y : Int) < y1 ∧ x0 ≤ (x : Int) ∧ (x : Int) < x1 then s2 else s0) := by show _ = _; rw [← hsg, ← hs2, ← hs0]; exact HLAW.out y x hxl
                        have n0 := HS0.out.c0
                        have n1 := HS0.out.c1
                        have n2 := HS0.out.c2
                        have n3 := HS0.out.c3
                        have n4 := HS0.out.c4
                        have n5 := HS0.out.c5
                        have n6 := HS0.out.c6
                        obtain ⟨w13, hw13⟩ : ∃ w13, w13 = wr.alloc (.cells #[.bool s0.own, .int .i64 (s0.oR : Int), .int .i64 (s0.oC : Int), .bool s0.drawn, .int .i64 (s0.fR : Int), .int .i64 (s0.fC : Int), .int .u8 (s0.ch : Int)] 52) := ⟨_, rfl⟩
                        obtain ⟨b12, hb12⟩ : ∃ b, b = wr.heap.size := ⟨_, rfl⟩
                        have HV : Hid (SpotAt w13 b12 0 s0 ∧ ∀ o, w13.frozen? ⟨b12, o, none⟩ = false) := by
                          show _ ∧ _
                          rw [hw13, hb12]
                          exact ⟨⟨by simp, by simp, by simp, by simp, by simp, by simp, by simp⟩, fun o => by simp⟩
                        have HK13 : Hid (Kp no wr w13) := by show Kp _ _ _; rw [hw13]; exact (Kp.refl no wr).alloc _
                        have HB12 : Hid (w12.heap.size ≤ b12 ∧ fb < b12 ∧ f2 < b12) := by
                          have h1 := kx.size
                          have h2 : fb < wr.heap.size := cell_lt HSG.out.c0
                          have h3 : f2 < wr.heap.size := cell_lt HS2.out.c0
                          exact ⟨by omega, by omega, by omega⟩
                        clear hs0 hs2 hsg
                        go_upto_region 20 with fail
                        rw [← hw13, ← hb12]
                        clear hw13 hb12 n0 n1 n2 n3 n4 n5 n6
                        have e0 := (kx.trans HK13.out).cell z2 id
                        have e1' := (kx.trans HK13.out).cell z3 id
                        have e2' := (kx.trans HK13.out).cell z4 id
                        have e3' := (kx.trans HK13.out).cell z5 id
                        have HKX : Hid (Kp no w12 w13) := kx.trans HK13.out
                        go_cut [102] (fun s102 wx => s102 = .bool (decide (y0 ≤ (y : Int)) && decide ((y : Int) < y1) && decide (x0 ≤ (x : Int)) && decide ((x : Int) < x1)) ∧ wx = w13)
                        case first =>
                          as_aux_lemma =>
                            by_cases e1 : y0 ≤ (y : Int)
                            · by_cases e2 : (y : Int) < y1
                              · by_cases e3 : x0 ≤ (x : Int)
                                · have HQ : Hid ((decide (y0 ≤ (y : Int)) && decide ((y : Int) < y1) && decide (x0 ≤ (x : Int)) && decide ((x : Int) < x1)) = decide ((x : Int) < x1)) := by show _ = _; simp [e1, e2, e3]
                                  go_wp2_with fail
                                  go_meet
                                  exact ⟨by rw [HQ.out], rfl⟩
                                · have HQ : Hid ((decide (y0 ≤ (y : Int)) && decide ((y : Int) < y1) && decide (x0 ≤ (x : Int)) && decide ((x : Int) < x1)) = false) := by show _ = _; simp [e3]
                                  go_wp2_with fail
                                  go_meet
                                  exact ⟨by rw [HQ.out], rfl⟩
                              · have HQ : Hid ((decide (y0 ≤ (y : Int)) && decide ((y : Int) < y1) && decide (x0 ≤ (x : Int)) && decide ((x : Int) < x1)) = false) := by show _ = _; simp [e2]
                                go_wp2_with fail
                                go_meet
                                exact ⟨by rw [HQ.out], rfl⟩
                            · have HQ : Hid ((decide (y0 ≤ (y : Int)) && decide ((y : Int) < y1) && decide (x0 ≤ (x : Int)) && decide ((x : Int) < x1)) = false) := by show _ = _; simp [e1]
                              go_wp2_with fail
                              go_meet
                              exact ⟨by rw [HQ.out], rfl⟩
                        case rest =>
                        obtain ⟨rfl, hww⟩ := hcut
                        obtain rfl := hww.symm
                        obtain ⟨ins, hins⟩ : ∃ b, (decide (y0 ≤ (y : Int)) && decide ((y : Int) < y1) && decide (x0 ≤ (x : Int)) && decide ((x : Int) < x1)) = b := ⟨_, rfl⟩
                        rw [hins]
                        have HIN : Hid ((y0 ≤ (y : Int) ∧ (y : Int) < y1 ∧ x0 ≤ (x : Int) ∧ (x : Int) < x1) ↔ ins = true) := by
                          show _ ↔ _
                          rw [← hins]
                          simp [and_assoc]
                        clear hins e0 e1' e2' e3'
                        cases ins with
                        | true =>
                          as_aux_lemma =>
                            have HSE : Hid (sg = s2) := by have h1 := HL.out; rw [if_pos (HIN.out.2 rfl)] at h1; exact h1
                            have m0 := HK13.out.cell HS2.out.c0 id
                            have m1 := HK13.out.cell HS2.out.c1 id
                            have m2 := HK13.out.cell HS2.out.c2 id
                            have m3 := HK13.out.cell HS2.out.c3 id
                            have m4 := HK13.out.cell HS2.out.c4 id
                            have m5 := HK13.out.cell HS2.out.c5 id
                            have m6 := HK13.out.cell HS2.out.c6 id
                            have v0 : w13.cell? ⟨b12, 0, none⟩ = some (.bool s0.own) := HV.out.1.c0
                            have vf0 := HV.out.2 0
                            have v1 : w13.cell? ⟨b12, 1, none⟩ = some (.int .i64 (s0.oR : Int)) := HV.out.1.c1
                            have vf1 := HV.out.2 1
                            have v2 : w13.cell? ⟨b12, 2, none⟩ = some (.int .i64 (s0.oC : Int)) := HV.out.1.c2
                            have vf2 := HV.out.2 2
                            have v3 : w13.cell? ⟨b12, 3, none⟩ = some (.bool s0.drawn) := HV.out.1.c3
                            have vf3 := HV.out.2 3
                            have v4 : w13.cell? ⟨b12, 4, none⟩ = some (.int .i64 (s0.fR : Int)) := HV.out.1.c4
                            have vf4 := HV.out.2 4
                            have v5 : w13.cell? ⟨b12, 5, none⟩ = some (.int .i64 (s0.fC : Int)) := HV.out.1.c5
                            have vf5 := HV.out.2 5
                            have v6 : w13.cell? ⟨b12, 6, none⟩ = some (.int .u8 (s0.ch : Int)) := HV.out.1.c6
                            have vf6 := HV.out.2 6
                            have hne : f2 ≠ b12 := by have := HB12.out; omega
                            obtain ⟨w14, hw14⟩ : ∃ w14, w14 = ((((((w13.setCell ⟨b12, 0, none⟩ (.bool s2.own)).setCell ⟨b12, 1, none⟩ (.int .i64 (s2.oR : Int))).setCell ⟨b12, 2, none⟩ (.int .i64 (s2.oC : Int))).setCell ⟨b12, 3, none⟩ (.bool s2.drawn)).setCell ⟨b12, 4, none⟩ (.int .i64 (s2.fR : Int))).setCell ⟨b12, 5, none⟩ (.int .i64 (s2.fC : Int))).setCell ⟨b12, 6, none⟩ (.int .u8 (s2.ch : Int)) := ⟨_, rfl⟩
                            have HK14 : Hid (Kp (one b12) w13 w14) := by
                              show Kp _ _ _
                              rw [hw14]
                              exact (((((((Kp.refl (one b12) w13).setCell (p := ⟨b12, 0, none⟩) (fun _ => rfl) _).setCell (p := ⟨b12, 1, none⟩) (fun _ => rfl) _).setCell (p := ⟨b12, 2, none⟩) (fun _ => rfl) _).setCell (p := ⟨b12, 3, none⟩) (fun _ => rfl) _).setCell (p := ⟨b12, 4, none⟩) (fun _ => rfl) _).setCell (p := ⟨b12, 5, none⟩) (fun _ => rfl) _).setCell (p := ⟨b12, 6, none⟩) (fun _ => rfl) _
                            have HV14 : Hid (SpotAt w14 b12 0 s2) := by
                              show SpotAt _ _ _ _
                              rw [hw14]
                              exact put7_at v0 v1 v2 v3 v4 v5 v6 s2
                            go_upto_region 22 with fail
                            rw [← hw14]
                            clear hw14 m0 m1 m2 m3 m4 m5 m6 v0 v1 v2 v3 v4 v5 v6 vf0 vf1 vf2 vf3 vf4 vf5 vf6 hne
                            have HG14 : Hid (SpotAt w14 fb (y * 560 + x * 7) s2) := by
                              have h1 : SpotAt w13 fb (y * 560 + x * 7) s2 := by rw [← HSE.out]; exact HSG.out.same fun _ _ => World.cell?_of_block (w := wr) (HK13.out.block fb (cell_lt HSG.out.c0) id)
                              have hb : fb ≠ b12 := by have := HB12.out; omega
                              exact h1.same fun _ _ => World.cell?_of_block (w := w13) (HK14.out.block fb (cell_lt h1.c0) hb)
                            have HKW : Hid (Kp no w12 w14) := HKX.out.trans2 HK14.out (fun j hj e => by have e' : j = b12 := e; have := HB12.out.1; omega)
                            have hneq : ∀ Z : World, (binOp .neq 52 (.agg #[.bool s2.own, .int .i64 (s2.oR : Int), .int .i64 (s2.oC : Int), .bool s2.drawn, .int .i64 (s2.fR : Int), .int .i64 (s2.fC : Int), .int .u8 (s2.ch : Int)]) (.agg #[.bool s2.own, .int .i64 (s2.oR : Int), .int .i64 (s2.oC : Int), .bool s2.drawn, .int .i64 (s2.fR : Int), .int .i64 (s2.fC : Int), .int .u8 (s2.ch : Int)])).run Try.prog Z = .ok (.bool false) Z := fun Z => neq52 s2 Z
                            have g0 : ∀ p : KpOf w14, p.to.cell? ⟨fb, y * 560 + x * 7, none⟩ = some (.bool s2.own) := fun p => p.h.cell HG14.out.c0 id
                            have g1 : ∀ p : KpOf w14, p.to.cell? ⟨fb, y * 560 + x * 7 + 1, none⟩ = some (.int .i64 (s2.oR : Int)) := fun p => p.h.cell HG14.out.c1 id
                            have g2 : ∀ p : KpOf w14, p.to.cell? ⟨fb, y * 560 + x * 7 + 2, none⟩ = some (.int .i64 (s2.oC : Int)) := fun p => p.h.cell HG14.out.c2 id
                            have g3 : ∀ p : KpOf w14, p.to.cell? ⟨fb, y * 560 + x * 7 + 3, none⟩ = some (.bool s2.drawn) := fun p => p.h.cell HG14.out.c3 id
                            have g4 : ∀ p : KpOf w14, p.to.cell? ⟨fb, y * 560 + x * 7 + 4, none⟩ = some (.int .i64 (s2.fR : Int)) := fun p => p.h.cell HG14.out.c4 id
                            have g5 : ∀ p : KpOf w14, p.to.cell? ⟨fb, y * 560 + x * 7 + 5, none⟩ = some (.int .i64 (s2.fC : Int)) := fun p => p.h.cell HG14.out.c5 id
                            have g6 : ∀ p : KpOf w14, p.to.cell? ⟨fb, y * 560 + x * 7 + 6, none⟩ = some (.int .u8 (s2.ch : Int)) := fun p => p.h.cell HG14.out.c6 id
                            have h0 : ∀ p : KpOf w14, p.to.cell? ⟨b12, 0, none⟩ = some (.bool s2.own) := fun p => p.h.cell (show w14.cell? ⟨b12, 0, none⟩ = some (.bool s2.own) from HV14.out.c0) id
                            have h1 : ∀ p : KpOf w14, p.to.cell? ⟨b12, 1, none⟩ = some (.int .i64 (s2.oR : Int)) := fun p => p.h.cell (show w14.cell? ⟨b12, 1, none⟩ = some (.int .i64 (s2.oR : Int)) from HV14.out.c1) id
                            have h2 : ∀ p : KpOf w14, p.to.cell? ⟨b12, 2, none⟩ = some (.int .i64 (s2.oC : Int)) := fun p => p.h.cell (show w14.cell? ⟨b12, 2, none⟩ = some (.int .i64 (s2.oC : Int)) from HV14.out.c2) id
                            have h3 : ∀ p : KpOf w14, p.to.cell? ⟨b12, 3, none⟩ = some (.bool s2.drawn) := fun p => p.h.cell (show w14.cell? ⟨b12, 3, none⟩ = some (.bool s2.drawn) from HV14.out.c3) id
                            have h4 : ∀ p : KpOf w14, p.to.cell? ⟨b12, 4, none⟩ = some (.int .i64 (s2.fR : Int)) := fun p => p.h.cell (show w14.cell? ⟨b12, 4, none⟩ = some (.int .i64 (s2.fR : Int)) from HV14.out.c4) id
                            have h5 : ∀ p : KpOf w14, p.to.cell? ⟨b12, 5, none⟩ = some (.int .i64 (s2.fC : Int)) := fun p => p.h.cell (show w14.cell? ⟨b12, 5, none⟩ = some (.int .i64 (s2.fC : Int)) from HV14.out.c5) id
                            have h6 : ∀ p : KpOf w14, p.to.cell? ⟨b12, 6, none⟩ = some (.int .u8 (s2.ch : Int)) := fun p => p.h.cell (show w14.cell? ⟨b12, 6, none⟩ = some (.int .u8 (s2.ch : Int)) from HV14.out.c6) id
                            go_cut [118] (fun s118 wx => s118 = .bool false ∧ Kp no w14 wx)
                            case first =>
                              as_aux_lemma =>
                                refine wp_region_kp (by kernel_rfl) (by kernel_rfl) ?_
                                repeat (go_big_quiet_step (fail))
                                refine wpQuiet_nil ?_
                                intro _ hw'
                                obtain ⟨⟨wq, kq⟩, hw''⟩ := hw'
                                subst hw''
                                go_wp2_with fail
                                go_meet
                                exact ⟨rfl, kq⟩
                            case rest =>
                            obtain ⟨rfl, kz⟩ := hcut
                            clear hneq g0 g1 g2 g3 g4 g5 g6 h0 h1 h2 h3 h4 h5 h6
                            go_wp2_with fail
                            refine ⟨⟨x + 1, by omega, by go_num, (HKW.out).trans kz⟩, by simp [intOf]; omega⟩
                        | false =>
                          as_aux_lemma =>
                            have HSE : Hid (sg = s0) := by have h1 := HL.out; rw [if_neg (fun h => by have := HIN.out.1 h; cases this)] at h1; exact h1
                            have HG13 : Hid (SpotAt w13 fb (y * 560 + x * 7) s0) := by rw [← HSE.out]; exact HSG.out.same fun _ _ => World.cell?_of_block (w := wr) (HK13.out.block fb (cell_lt HSG.out.c0) id)
                            go_upto_region 22 with fail
                            have hneq : ∀ Z : World, (binOp .neq 52 (.agg #[.bool s0.own, .int .i64 (s0.oR : Int), .int .i64 (s0.oC : Int), .bool s0.drawn, .int .i64 (s0.fR : Int), .int .i64 (s0.fC : Int), .int .u8 (s0.ch : Int)]) (.agg #[.bool s0.own, .int .i64 (s0.oR : Int), .int .i64 (s0.oC : Int), .bool s0.drawn, .int .i64 (s0.fR : Int), .int .i64 (s0.fC : Int), .int .u8 (s0.ch : Int)])).run Try.prog Z = .ok (.bool false) Z := fun Z => neq52 s0 Z
                            have g0 : ∀ p : KpOf w13, p.to.cell? ⟨fb, y * 560 + x * 7, none⟩ = some (.bool s0.own) := fun p => p.h.cell HG13.out.c0 id
                            have g1 : ∀ p : KpOf w13, p.to.cell? ⟨fb, y * 560 + x * 7 + 1, none⟩ = some (.int .i64 (s0.oR : Int)) := fun p => p.h.cell HG13.out.c1 id
                            have g2 : ∀ p : KpOf w13, p.to.cell? ⟨fb, y * 560 + x * 7 + 2, none⟩ = some (.int .i64 (s0.oC : Int)) := fun p => p.h.cell HG13.out.c2 id
                            have g3 : ∀ p : KpOf w13, p.to.cell? ⟨fb, y * 560 + x * 7 + 3, none⟩ = some (.bool s0.drawn) := fun p => p.h.cell HG13.out.c3 id
                            have g4 : ∀ p : KpOf w13, p.to.cell? ⟨fb, y * 560 + x * 7 + 4, none⟩ = some (.int .i64 (s0.fR : Int)) := fun p => p.h.cell HG13.out.c4 id
                            have g5 : ∀ p : KpOf w13, p.to.cell? ⟨fb, y * 560 + x * 7 + 5, none⟩ = some (.int .i64 (s0.fC : Int)) := fun p => p.h.cell HG13.out.c5 id
                            have g6 : ∀ p : KpOf w13, p.to.cell? ⟨fb, y * 560 + x * 7 + 6, none⟩ = some (.int .u8 (s0.ch : Int)) := fun p => p.h.cell HG13.out.c6 id
                            have h0 : ∀ p : KpOf w13, p.to.cell? ⟨b12, 0, none⟩ = some (.bool s0.own) := fun p => p.h.cell (show w13.cell? ⟨b12, 0, none⟩ = some (.bool s0.own) from HV.out.1.c0) id
                            have h1 : ∀ p : KpOf w13, p.to.cell? ⟨b12, 1, none⟩ = some (.int .i64 (s0.oR : Int)) := fun p => p.h.cell (show w13.cell? ⟨b12, 1, none⟩ = some (.int .i64 (s0.oR : Int)) from HV.out.1.c1) id
                            have h2 : ∀ p : KpOf w13, p.to.cell? ⟨b12, 2, none⟩ = some (.int .i64 (s0.oC : Int)) := fun p => p.h.cell (show w13.cell? ⟨b12, 2, none⟩ = some (.int .i64 (s0.oC : Int)) from HV.out.1.c2) id
                            have h3 : ∀ p : KpOf w13, p.to.cell? ⟨b12, 3, none⟩ = some (.bool s0.drawn) := fun p => p.h.cell (show w13.cell? ⟨b12, 3, none⟩ = some (.bool s0.drawn) from HV.out.1.c3) id
                            have h4 : ∀ p : KpOf w13, p.to.cell? ⟨b12, 4, none⟩ = some (.int .i64 (s0.fR : Int)) := fun p => p.h.cell (show w13.cell? ⟨b12, 4, none⟩ = some (.int .i64 (s0.fR : Int)) from HV.out.1.c4) id
                            have h5 : ∀ p : KpOf w13, p.to.cell? ⟨b12, 5, none⟩ = some (.int .i64 (s0.fC : Int)) := fun p => p.h.cell (show w13.cell? ⟨b12, 5, none⟩ = some (.int .i64 (s0.fC : Int)) from HV.out.1.c5) id
                            have h6 : ∀ p : KpOf w13, p.to.cell? ⟨b12, 6, none⟩ = some (.int .u8 (s0.ch : Int)) := fun p => p.h.cell (show w13.cell? ⟨b12, 6, none⟩ = some (.int .u8 (s0.ch : Int)) from HV.out.1.c6) id
                            go_cut [118] (fun s118 wx => s118 = .bool false ∧ Kp no w13 wx)
                            case first =>
                              as_aux_lemma =>
                                refine wp_region_kp (by kernel_rfl) (by kernel_rfl) ?_
                                repeat (go_big_quiet_step (fail))
                                refine wpQuiet_nil ?_
                                intro _ hw'
                                obtain ⟨⟨wq, kq⟩, hw''⟩ := hw'
                                subst hw''
                                go_wp2_with fail
                                go_meet
                                exact ⟨rfl, kq⟩
                            case rest =>
                            obtain ⟨rfl, kz⟩ := hcut
                            clear hneq g0 g1 g2 g3 g4 g5 g6 h0 h1 h2 h3 h4 h5 h6
                            go_wp2_with fail
                            refine ⟨⟨x + 1, by omega, by go_num, (HKX.out).trans kz⟩, by simp [intOf]; omega⟩
                    · have hx' : 80 = x := by omega
                      subst hx'
                      go_wp2_with fail
                      refine ⟨⟨y + 1, by omega, by go_num, kx⟩, by simp [intOf]; omega⟩
                · have hy' : 24 = y := by omega
                  subst hy'
                  have HGZ : Hid (GameAt wr qb sb lb S' V') := HG12.out.on ky
                  have HKZ : Hid (Kp no w1 wr) := HK12.out.trans ky
                  clear ky
                  go_wp2_with fail
                  refine ⟨⟨k + 1, S', V', by omega, by go_num, HGZ, HSP2, HKZ.out⟩, by simp [intOf]; omega⟩
      · have hk' : n = k := by omega
        subst hk'
        go_wp2_with fail
        go_ret
        exact ⟨rfl, kr⟩
end Go.Proofs.Qxb6500653a
